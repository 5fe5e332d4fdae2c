/- A message that is read: what a taker holds and reads; the walks of its methods. -/
import Derived.Test.YtekdnljincbghaaDoorMsg6
import Derived.Test.YtekdnljincbghaaDoorBalTake
import Derived.Test.YtekdnljincbghaaDoorOwnM
import Derived.Handy
namespace Go.Proofs.YtekdnljincbghaaDoor
open Go Go.RowKit Go.Lib

/-- A taker: the reader's error, what is left, whether something was bad. -/
structure St where
  e : Int
  l : List UInt8
  bad : Bool
def St.uint (s : St) : Nat × St := ((uintE 10 0 0 s.e s.l).1, ⟨(uintE 10 0 0 s.e s.l).2.1, (uintE 10 0 0 s.e s.l).2.2, s.bad⟩)
def St.ball (s : St) : (Nat × Nat) × St := (((takeB s.e s.l).1, (takeB s.e s.l).2.1), ⟨(takeB s.e s.l).2.2.2.1, (takeB s.e s.l).2.2.2.2, s.bad || (takeB s.e s.l).2.2.1 != 0⟩)
def St.text (lim : Int) (s : St) : List UInt8 × St := ((textR lim s.e s.l).1, ⟨(textR lim s.e s.l).2.1, (textR lim s.e s.l).2.2, s.bad⟩)
def St.vote (lim : Int) (s : St) : (Vd × List UInt8) × St :=
  ((⟨s.uint.1, s.uint.2.ball.1.1, (s.uint.2.ball.1.2 : Int)⟩, (s.uint.2.ball.2.text lim).1), (s.uint.2.ball.2.text lim).2)
/-- So many, one behind the other. -/
def St.rep {α : Type} (f : St → α × St) : Nat → St → List α × St
  | 0, s => ([], s)
  | k + 1, s => ((St.rep f k s).1 ++ [(f (St.rep f k s).2).1], (f (St.rep f k s).2).2)
def St.rows {α : Type} (most : Nat) (f : St → α × St) (s : St) : List α × St :=
  if most < s.uint.1 then ([], ⟨s.uint.2.e, s.uint.2.l, true⟩) else St.rep f s.uint.1 s.uint.2
/-- A taker in memory. -/
structure TkS (w : World) (tk g : Nat) (bs : List Nat) (lim : Int) (s : St) : Prop where
  rd : Rd w g bs s.e s.l lim
  at0 : w.heap[tk]? = some (.cells #[.pointer (some ⟨g, 0, none⟩), .bool s.bad] 75 (0, 0))
  ne : tk ≠ g
  nb : tk ∉ bs
  lt : ∀ k, k ∈ bs → k < w.heap.size
theorem TkS.mod {S : List Nat} {w w' : World} {tk g : Nat} {bs : List Nat} {lim : Int} {s : St} (h : TkS w tk g bs lim s) (m : Mod S w w') (h1 : tk ∉ S) (h2 : g ∉ S) (h3 : ∀ k, k ∈ bs → k ∉ S) : TkS w' tk g bs lim s :=
  ⟨h.rd.mod m h2 h3, m.get h.at0 h1, h.ne, h.nb, fun k hk => Nat.lt_of_lt_of_le (h.lt k hk) m.size⟩
theorem TkS.mod0 {w w' : World} {tk g : Nat} {bs : List Nat} {lim : Int} {s : St} (h : TkS w tk g bs lim s) (m : Mod [] w w') : TkS w' tk g bs lim s := h.mod m List.not_mem_nil List.not_mem_nil (fun _ _ => List.not_mem_nil)
theorem TkS.off {S : List Nat} {W w w' : World} {tk g : Nat} {bs : List Nat} {lim : Int} {s : St} (h : TkS w tk g bs lim s) (m : Mod S w w') (h1 : tk < W.heap.size) (h2 : g < W.heap.size) (h3 : ∀ k, k ∈ bs → k < W.heap.size) (hS : ∀ k, k ∈ S → W.heap.size ≤ k) : TkS w' tk g bs lim s :=
  h.mod m (fun h => by have := hS _ h; omega) (fun h => by have := hS _ h; omega) (fun k hk h => by have := hS _ h; have := h3 k hk; omega)
theorem TkS.read {w w' : World} {tk g : Nat} {bs : List Nat} {lim : Int} {s : St} {e' : Int} {l' : List UInt8} (h : TkS w tk g bs lim s) (r : Rd w' g bs e' l' lim) (m : Mod [g] w w') : TkS w' tk g bs lim ⟨e', l', s.bad⟩ :=
  ⟨r, m.get h.at0 (by simpa using h.ne), h.ne, h.nb, fun k hk => Nat.lt_of_lt_of_le (h.lt k hk) m.size⟩
theorem TkS.set {w : World} {tk g : Nat} {bs : List Nat} {lim : Int} {s : St} (h : TkS w tk g bs lim s) (b : Bool) : TkS (w.setCell ⟨tk, 1, none⟩ (.bool b)) tk g bs lim ⟨s.e, s.l, b⟩ := by
  have m : Mod [tk] w (w.setCell ⟨tk, 1, none⟩ (.bool b)) := Mod.setCell w _ _ (by simp)
  have hg : g ∉ [tk] := by simp; exact fun h' => h.ne h'.symm
  refine ⟨h.rd.mod m hg (fun k hk hs => ?_), heap_setCell_same h.at0 _, h.ne, h.nb, fun k hk => Nat.lt_of_lt_of_le (h.lt k hk) m.size⟩
  simp only [List.mem_singleton] at hs
  subst hs
  exact h.nb hk
theorem TkS.tlt {w : World} {tk g : Nat} {bs : List Nat} {lim : Int} {s : St} (h : TkS w tk g bs lim s) : tk < w.heap.size ∧ g < w.heap.size := ⟨lt_of_block h.at0, h.rd.lt⟩

set_option maxRecDepth 100000 in
theorem tball_any (tk g : Nat) (bs : List Nat) (lim : Int) (s : St) (w : World) (h : TkS w tk g bs lim s) :
    Calls Tryd.prog 62 #[.pointer (some ⟨tk, 0, none⟩)] w fun e w' => e = .returned (.agg #[.int .u64 (s.ball.1.1 : Int), .int .i64 (s.ball.1.2 : Int)]) ∧ TkS w' tk g bs lim s.ball.2 ∧ Mod [g, tk] w w' := by
  obtain ⟨e, l, bad⟩ := s
  have hlt := h.tlt
  have m1 := Mod.alloc [] w (.cells #[.int .u64 0, .int .i64 0] 24)
  have hb1 := heap_alloc_new w (.cells #[.int .u64 0, .int .i64 0] 24)
  obtain ⟨w1, hw1⟩ : ∃ x, w.alloc (.cells #[.int .u64 0, .int .i64 0] 24) = x := ⟨_, rfl⟩
  rw [hw1] at m1 hb1
  have T1 := Lib.hid (h.mod0 m1)
  have HB1 := Lib.hid hb1
  have M1 := Lib.hid m1
  have HLT := Lib.hid h.lt
  have t0 := cell_of_block (i := 0) T1.out.at0
  have HT := Lib.hid (take_any g bs e l lim w1 T1.out.rd T1.out.lt)
  have HS : Hid ((⟨e, l, bad⟩ : St).ball = (((takeB e l).1, (takeB e l).2.1), ⟨(takeB e l).2.2.2.1, (takeB e l).2.2.2.2, bad || (takeB e l).2.2.1 != 0⟩)) := Lib.hid rfl
  obtain ⟨⟨n, r, er, e2, l2⟩, htx⟩ : ∃ x, takeB e l = x := ⟨_, rfl⟩
  rw [htx] at HT HS
  dsimp only at HT HS
  rw [HS.out]
  clear h m1 hb1 htx HS
  go_enter Tryd.func62, Tryd.ntmps62
  go_wp2_with fail
  refine HT.out.mono ?_
  rintro r' w2 ⟨rfl, r2, m2⟩
  have T2 := Lib.hid (T1.out.read r2 m2)
  dsimp only at T2
  have hg1 : w.heap.size ∉ [g] := by simp; omega
  have HB2 := Lib.hid (m2.get HB1.out hg1)
  have M2 := Lib.hid (M1.out.nil.trans' m2)
  have hz2 : w.heap.size < w2.heap.size := by have := M1.out.size; have := m2.size; have := lt_of_block HB1.out; omega
  have m3 := Mod.alloc [] w2 (.cells #[.int .u64 (n : Int), .int .i64 (r : Int)] 24)
  have hb3 := heap_alloc_new w2 (.cells #[.int .u64 (n : Int), .int .i64 (r : Int)] 24)
  obtain ⟨w3, hw3⟩ : ∃ x, w2.alloc (.cells #[.int .u64 (n : Int), .int .i64 (r : Int)] 24) = x := ⟨_, rfl⟩
  rw [hw3] at m3 hb3
  have T3 := Lib.hid (T2.out.mod0 m3)
  have HB3 := Lib.hid (m3.get HB2.out List.not_mem_nil)
  have M3 := Lib.hid (M2.out.trans0 m3)
  clear r2 m2 m3 T1 T2 HB1 HB2 M1 M2 t0 HT hw1
  have t1 := cell_of_block (i := 1) T3.out.at0
  have ft := free_of_block (i := 1) T3.out.at0
  have d0 := cell_of_block (i := 0) hb3
  have d1 := cell_of_block (i := 1) hb3
  obtain ⟨q, hq⟩ : ∃ q, (er != 0) = q := ⟨_, rfl⟩
  have HQ := Lib.hid hq
  have hr0 := cell_of_block (i := 0) HB3.out
  have hr1 := cell_of_block (i := 1) HB3.out
  have fr0 := free_of_block (i := 0) HB3.out
  have fr1 := free_of_block (i := 1) HB3.out
  have HE : ∀ b : Bool, TkS (((w3.setCell ⟨tk, 1, none⟩ (.bool b)).setCell ⟨w.heap.size, 0, none⟩ (.int .u64 (n : Int))).setCell ⟨w.heap.size, 1, none⟩ (.int .i64 (r : Int))) tk g bs lim ⟨e2, l2, b⟩ ∧ Mod [g, tk] w (((w3.setCell ⟨tk, 1, none⟩ (.bool b)).setCell ⟨w.heap.size, 0, none⟩ (.int .u64 (n : Int))).setCell ⟨w.heap.size, 1, none⟩ (.int .i64 (r : Int))) := fun b => by
    have hn : tk ≠ w.heap.size ∧ g ≠ w.heap.size := by omega
    have m1 : Mod [w.heap.size] (w3.setCell ⟨tk, 1, none⟩ (.bool b)) (((w3.setCell ⟨tk, 1, none⟩ (.bool b)).setCell ⟨w.heap.size, 0, none⟩ (.int .u64 (n : Int))).setCell ⟨w.heap.size, 1, none⟩ (.int .i64 (r : Int))) :=
      (Mod.setCell _ _ _ (by simp)).trans' (Mod.setCell _ _ _ (by simp))
    have m0 : Mod [g, tk] w (w3.setCell ⟨tk, 1, none⟩ (.bool b)) := (M3.out.weaken (by simp)).trans' (Mod.setCell _ _ _ (by simp))
    refine ⟨(T3.out.set b).mod m1 (by simp; exact hn.1) (by simp; exact hn.2) (fun k hk h => ?_), m0.trans m1 (by simp)⟩
    simp only [List.mem_singleton] at h
    exact absurd (HLT.out k hk) (by omega)
  clear hb3 hq
  have HEH := Lib.hid HE
  clear HE
  go_wp2_with fail
  · refine bodyPost_ret (by simp [results, Tryd.results62, go_sem, *]; try rfl) rfl ?_
    have hE := HEH.out true
    rename_i hbad
    subst hbad
    exact ⟨rfl, by simpa using hE.1, hE.2⟩
  · refine bodyPost_ret (by simp [results, Tryd.results62, go_sem, *]; try rfl) rfl ?_
    have hE := HEH.out q
    rename_i hbad
    have hbad' : bad = false := by simpa using hbad
    subst hbad'
    rw [← HQ.out] at hE
    refine ⟨rfl, ?_, ?_⟩
    · rw [HQ.out]
      rw [HQ.out] at hE
      simpa using hE.1
    · have h2 := hE.2
      rw [HQ.out] at h2 ⊢
      exact h2

/-- Bytes of the call's own. -/
def NewB (B : Nat) (w : World) (b : Bs) : Prop := OwnB w b.2.1 b.2.2 b.1 ∧ ∀ k, k ∈ blk b.2.1 → B ≤ k
theorem NewB.mod {B : Nat} {S : List Nat} {w w' : World} {b : Bs} (h : NewB B w b) (m : Mod S w w') (hn : ∀ k, k ∈ blk b.2.1 → k ∉ S) : NewB B w' b := ⟨h.1.mod m hn, h.2⟩
theorem NewB.off {B : Nat} {S : List Nat} {w w' : World} {b : Bs} (h : NewB B w b) (m : Mod S w w') (hS : ∀ k, k ∈ S → k < B) : NewB B w' b := h.mod m (fun k hk hs => by have := h.2 k hk; have := hS k hs; omega)
theorem NewB.mod0 {B : Nat} {w w' : World} {b : Bs} (h : NewB B w b) (m : Mod [] w w') : NewB B w' b := h.mod m (fun _ _ => List.not_mem_nil)
theorem NewB.grow {B B' : Nat} {w : World} {b : Bs} (h : NewB B w b) (hb : B' ≤ B) : NewB B' w b := ⟨h.1, fun k hk => Nat.le_trans hb (h.2 k hk)⟩
theorem NewB.lt {B : Nat} {w : World} {b : Bs} (h : NewB B w b) : ∀ k, k ∈ blk b.2.1 → k < w.heap.size := Own.lt h.1
theorem NewB.le {B : Nat} {w : World} {b : Bs} (h : NewB B w b) : b.1.length ≤ b.2.2 := Own.le h.1

theorem uintR_le (k : Nat) : ∀ (i n : Nat) (l : List UInt8), (uintR k i n l).2.2.length ≤ l.length := by
  induction k with
  | zero => intro i n l; simp [uintR]
  | succ k ih =>
    intro i n l
    cases l with
    | nil => simp [uintR]
    | cons c r =>
      unfold uintR
      split
      · simp
      · split
        · simp
        · have := ih (i + 1) (n + c.toNat % 128 * 2 ^ (7 * i)) r
          simp only [List.length_cons]
          omega
theorem uintE_le (e : Int) (l : List UInt8) : (uintE 10 0 0 e l).2.2.length ≤ l.length := by
  unfold uintE
  split
  · exact uintR_le _ _ _ _
  · exact Nat.le_refl _
theorem textR_le (lim e : Int) (l : List UInt8) : (textR lim e l).1.length ≤ l.length := by
  have := uintE_le e l
  unfold textR
  split
  · simp
  · split
    · simp
    · split
      · simp
      · simp only [List.length_take]
        omega

set_option maxRecDepth 100000 in
theorem ttext_any (tk g : Nat) (bs : List Nat) (lim : Int) (s : St) (w : World) (h : TkS w tk g bs lim s) (hl1 : -9223372036854775808 ≤ lim) (hl2 : lim ≤ 9223372036854775807) :
    Calls Tryd.prog 63 #[.pointer (some ⟨tk, 0, none⟩)] w fun e w' => ∃ ao cap, e = .returned (bsV ((s.text lim).1, ao, cap)) ∧ NewB w.heap.size w' ((s.text lim).1, ao, cap) ∧ TkS w' tk g bs lim (s.text lim).2 ∧ Mod [g, tk] w w' := by
  obtain ⟨e, l, bad⟩ := s
  have H := Lib.hid h
  have t0 := cell_of_block (i := 0) h.at0
  have HT := Lib.hid (rtext_any g bs e l lim w h.rd hl1 hl2)
  have HS : Hid ((⟨e, l, bad⟩ : St).text lim = ((textR lim e l).1, ⟨(textR lim e l).2.1, (textR lim e l).2.2, bad⟩)) := Lib.hid rfl
  rw [HS.out]
  dsimp only
  have hsz : (textR lim e l).1.length ≤ 9223372036854775807 := by
    obtain ⟨_, ao, cap, _, h1, h2, _⟩ := h.rd
    have := textR_le lim e l
    dsimp only at h1
    omega
  obtain ⟨⟨t, e2, l2⟩, htx⟩ : ∃ x, textR lim e l = x := ⟨_, rfl⟩
  rw [htx] at HT hsz ⊢
  dsimp only at HT hsz ⊢
  have HSZ := Lib.hid hsz
  clear h htx HS hsz
  go_enter Tryd.func63, Tryd.ntmps63
  go_wp2_with fail
  refine HT.out.mono ?_
  rintro r' w2 ⟨rfl, r2, m2⟩
  have T2 := Lib.hid (H.out.read r2 m2)
  dsimp only at T2
  have M2 := Lib.hid m2
  clear r2 m2 t0 HT
  have hst : (⟨t.toArray⟩ : ByteArray).size = t.length := by simp [ByteArray.size]
  unfold strV
  go_wp2_with (refine wpl_bytes _ _ rfl ?_ (by rfl) ?_)
  · rw [hst]
    exact HSZ.out
  intro g3 cap3 w3 o3 m3 n3
  have hB : NewB w.heap.size w3 (t, some ⟨g3, 0, none⟩, cap3) := by
    refine ⟨by simpa using o3, fun k hk => ?_⟩
    simp [blk] at hk
    have := M2.out.size
    omega
  have HB := Lib.hid hB
  have T3 := Lib.hid (T2.out.mod0 m3)
  have M3 := Lib.hid ((M2.out.weaken (S' := [g, tk]) (by simp)).trans0 m3)
  clear o3 m3 n3 hB T2 M2
  go_wp2_with fail
  go_ret
  exact ⟨some ⟨g3, 0, none⟩, cap3, rfl, HB.out, T3.out, M3.out⟩
/-- Two boxes of a call that reads. -/
structure TB (w : World) (tk g : Nat) (bs : List Nat) (lim : Int) (t : TypeId) (s : St) (c0 c1 : Array Value) (wr : World) : Prop where
  st : TkS wr tk g bs lim s
  b0 : wr.heap[w.heap.size]? = some (.cells c0 t (0, 0))
  b1 : wr.heap[w.heap.size + 1]? = some (.cells c1 t (0, 0))
  mod : Mod [g, tk] w wr
  lt : tk < w.heap.size ∧ g < w.heap.size ∧ ∀ k, k ∈ bs → k < w.heap.size
theorem TB.start {w : World} {tk g : Nat} {bs : List Nat} {lim : Int} {s : St} (h : TkS w tk g bs lim s) (t : TypeId) (c0 c1 : Array Value) :
    ∃ w1, (w.alloc (.cells c0 t)).alloc (.cells c1 t) = w1 ∧ TB w tk g bs lim t s c0 c1 w1 := by
  have m1 := Mod.alloc [] w (.cells c0 t)
  have m2 := Mod.alloc [] (w.alloc (.cells c0 t)) (.cells c1 t)
  refine ⟨_, rfl, h.mod0 (m1.trans' m2), m2.get (heap_alloc_new w _) List.not_mem_nil, ?_, (m1.trans' m2).nil, h.tlt.1, h.tlt.2, h.lt⟩
  have := heap_alloc_new (w.alloc (.cells c0 t)) (.cells c1 t)
  rwa [show (w.alloc (.cells c0 t)).heap.size = w.heap.size + 1 by simp] at this
section
variable {w wr w' : World} {tk g : Nat} {bs : List Nat} {lim : Int} {t : TypeId} {s s' : St} {c0 c1 : Array Value}
theorem TB.read (h : TB w tk g bs lim t s c0 c1 wr) (r : TkS w' tk g bs lim s') (m : Mod [g, tk] wr w') : TB w tk g bs lim t s' c0 c1 w' :=
  ⟨r, m.get h.b0 (by have := h.lt; simp; omega), m.get h.b1 (by have := h.lt; simp; omega), h.mod.trans' m, h.lt⟩
theorem TB.off {S : List Nat} (h : TB w tk g bs lim t s c0 c1 wr) (m : Mod S wr w') (hS : ∀ k, k ∈ S → w.heap.size + 2 ≤ k) : TB w tk g bs lim t s c0 c1 w' :=
  ⟨h.st.mod m (fun hk => by have := hS _ hk; have := h.lt; omega) (fun hk => by have := hS _ hk; have := h.lt; omega) (fun k hk hm => by have := hS _ hm; have := h.lt.2.2 k hk; omega), m.get h.b0 (fun hk => by have := hS _ hk; omega), m.get h.b1 (fun hk => by have := hS _ hk; omega),
   h.mod.trans m (fun i hi hl => by have := hS i hi; omega), h.lt⟩
theorem TB.set0 (h : TB w tk g bs lim t s c0 c1 wr) (i : Nat) (v : Value) : TB w tk g bs lim t s (c0.setIfInBounds i v) c1 (wr.setCell ⟨w.heap.size, i, none⟩ v) := by
  have m : Mod [w.heap.size] wr (wr.setCell ⟨w.heap.size, i, none⟩ v) := Mod.setCell wr _ _ (by simp)
  have hl := h.lt
  exact ⟨h.st.mod m (by simp; omega) (by simp; omega) (fun k hk hm => by have := hl.2.2 k hk; simp at hm; omega), heap_setCell_same h.b0 v, m.get h.b1 (by simp), h.mod.trans m (by intro i hi hl; simp at hi; omega), hl⟩
theorem TB.set1 (h : TB w tk g bs lim t s c0 c1 wr) (i : Nat) (v : Value) : TB w tk g bs lim t s c0 (c1.setIfInBounds i v) (wr.setCell ⟨w.heap.size + 1, i, none⟩ v) := by
  have m : Mod [w.heap.size + 1] wr (wr.setCell ⟨w.heap.size + 1, i, none⟩ v) := Mod.setCell wr _ _ (by simp)
  have hl := h.lt
  exact ⟨h.st.mod m (by simp; omega) (by simp; omega) (fun k hk hm => by have := hl.2.2 k hk; simp at hm; omega), m.get h.b0 (by simp), heap_setCell_same h.b1 v, h.mod.trans m (by intro i hi hl; simp at hi; omega), hl⟩
end

set_option maxRecDepth 100000 in
theorem tvote_any (tk g : Nat) (bs : List Nat) (lim : Int) (s : St) (w : World) (h : TkS w tk g bs lim s) (hl1 : -9223372036854775808 ≤ lim) (hl2 : lim ≤ 9223372036854775807) :
    Calls Tryd.prog 66 #[.pointer (some ⟨tk, 0, none⟩)] w fun e w' => ∃ ao cap, e = .returned (.agg #[.int .u64 ((s.vote lim).1.1.slot : Int), .int .u64 ((s.vote lim).1.1.n : Int), .int .i64 (s.vote lim).1.1.r, .slice ao (s.vote lim).1.2.length cap]) ∧ NewB w.heap.size w' ((s.vote lim).1.2, ao, cap) ∧ TkS w' tk g bs lim (s.vote lim).2 ∧ Mod [g, tk] w w' := by
  have hz := h.tlt
  obtain ⟨w1, hw1, T1⟩ := TB.start h 52 #[.int .u64 0, .int .u64 0, .int .i64 0, .slice none 0 0] #[.int .u64 0, .int .u64 0, .int .i64 0, .slice none 0 0]
  have HU := Lib.hid (ruint_any g bs s.e s.l lim w1 T1.st.rd)
  obtain ⟨n1, h1⟩ : ∃ x, s.uint.1 = x := ⟨_, rfl⟩
  obtain ⟨s1, h2⟩ : ∃ x, s.uint.2 = x := ⟨_, rfl⟩
  obtain ⟨⟨n2, r2⟩, h3⟩ : ∃ x, s1.ball.1 = x := ⟨_, rfl⟩
  obtain ⟨s2, h4⟩ : ∃ x, s1.ball.2 = x := ⟨_, rfl⟩
  obtain ⟨t3, h5⟩ : ∃ x, (s2.text lim).1 = x := ⟨_, rfl⟩
  obtain ⟨s3, h6⟩ : ∃ x, (s2.text lim).2 = x := ⟨_, rfl⟩
  have HV : Hid (s.vote lim = ((⟨n1, n2, (r2 : Int)⟩, t3), s3)) := Lib.hid (by unfold St.vote; rw [h2, h4, h3, h1, h5, h6])
  have H1 : Hid ((uintE 10 0 0 s.e s.l).1 = n1 ∧ (⟨(uintE 10 0 0 s.e s.l).2.1, (uintE 10 0 0 s.e s.l).2.2, s.bad⟩ : St) = s1) := Lib.hid ⟨h1, h2⟩
  have H3 := Lib.hid (And.intro h3 h4)
  have H5 := Lib.hid (And.intro h5 h6)
  rw [HV.out]
  dsimp only
  replace T1 := Lib.hid T1
  have t0 := cell_of_block (i := 0) T1.out.st.at0
  clear h h1 h2 h3 h4 h5 h6 HV
  go_enter Tryd.func66, Tryd.ntmps66
  go_wp2_with fail
  refine HU.out.mono ?_
  rintro r' w2 ⟨rfl, r2', m2⟩
  have T2 := T1.out.read (T1.out.st.read r2' m2) (m2.weaken (by simp))
  rw [H1.out.2] at T2
  rw [H1.out.1]
  have HT2 := Lib.hid T2
  have f0 := free_of_block (i := 0) T2.b1
  have c0 := cell_of_block (i := 0) T2.b1
  clear r2' m2 t0 HU H1 T1 hw1 T2
  go_wp2_with fail
  have HB := Lib.hid (tball_any tk g bs lim s1 _ (HT2.out.set1 0 (.int .u64 (n1 : Int))).st)
  rw [H3.out.1, H3.out.2] at HB
  refine HB.out.mono ?_
  rintro r' w3 ⟨rfl, k3, m3⟩
  have T3 := (HT2.out.set1 0 (.int .u64 (n1 : Int))).read k3 m3
  have f1 := free_of_block (i := 1) T3.b1
  have f2 := free_of_block (i := 2) T3.b1
  have c1 := cell_of_block (i := 1) T3.b1
  have c2 := cell_of_block (i := 2) T3.b1
  have HT3 := Lib.hid T3
  clear k3 m3 HB H3 HT2 T3 f0 c0
  go_wp2_with fail
  have HB := Lib.hid (ttext_any tk g bs lim s2 _ ((HT3.out.set1 1 (.int .u64 (n2 : Int))).set1 2 (.int .i64 (r2 : Int))).st hl1 hl2)
  rw [H5.out.1, H5.out.2] at HB
  refine HB.out.mono ?_
  rintro r' w4 ⟨ao, cap, rfl, nb4, k4, m4⟩
  have T4 := ((HT3.out.set1 1 (.int .u64 (n2 : Int))).set1 2 (.int .i64 (r2 : Int))).read k4 m4
  have HN := Lib.hid (nb4.grow (B' := w.heap.size + 2) (by
    have := lt_of_block HT3.out.b1
    have := (Mod.setCell (S := [w.heap.size + 1]) w3 ⟨w.heap.size + 1, 1, none⟩ (.int .u64 (n2 : Int)) (by simp)).size
    have := (Mod.setCell (S := [w.heap.size + 1]) (w3.setCell ⟨w.heap.size + 1, 1, none⟩ (.int .u64 (n2 : Int))) ⟨w.heap.size + 1, 2, none⟩ (.int .i64 (r2 : Int)) (by simp)).size
    omega))
  have f3 := free_of_block (i := 3) T4.b1
  have d0 := cell_of_block (i := 0) T4.b1
  have d1 := cell_of_block (i := 1) T4.b1
  have d2 := cell_of_block (i := 2) T4.b1
  have d3 := cell_of_block (i := 3) T4.b1
  have z0 := cell_of_block (i := 0) T4.b0
  have z1 := cell_of_block (i := 1) T4.b0
  have z2 := cell_of_block (i := 2) T4.b0
  have z3 := cell_of_block (i := 3) T4.b0
  have y0 := free_of_block (i := 0) T4.b0
  have y1 := free_of_block (i := 1) T4.b0
  have y2 := free_of_block (i := 2) T4.b0
  have y3 := free_of_block (i := 3) T4.b0
  have HT4 := Lib.hid (T4.set1 3 (.slice ao t3.length cap))
  simp at d0 d1 d2 d3 z0 z1 z2 z3
  clear k4 m4 nb4 HB H5 HT3 T4 f1 f2 c1 c2
  unfold bsV
  dsimp only
  go_wp2_with fail
  refine bodyPost_ret (by simp [results, Tryd.results66, go_sem, *]; try rfl) rfl ?_
  have HE := (((HT4.out.set0 0 (.int .u64 (n1 : Int))).set0 1 (.int .u64 (n2 : Int))).set0 2 (.int .i64 (r2 : Int))).set0 3 (.slice ao t3.length cap)
  refine ⟨ao, cap, rfl, ?_, HE.st, HE.mod⟩
  have m5 : Mod [w.heap.size + 1, w.heap.size] w4 (((((w4.setCell ⟨w.heap.size + 1, 3, none⟩ (.slice ao t3.length cap)).setCell ⟨w.heap.size, 0, none⟩ (.int .u64 (n1 : Int))).setCell ⟨w.heap.size, 1, none⟩ (.int .u64 (n2 : Int))).setCell ⟨w.heap.size, 2, none⟩ (.int .i64 (r2 : Int))).setCell ⟨w.heap.size, 3, none⟩ (.slice ao t3.length cap)) :=
    ((((Mod.setCell _ _ _ (by simp)).trans' (Mod.setCell _ _ _ (by simp))).trans' (Mod.setCell _ _ _ (by simp))).trans' (Mod.setCell _ _ _ (by simp))).trans' (Mod.setCell _ _ _ (by simp))
  exact (HN.out.mod m5 (fun k hk hs => by have := HN.out.2 k hk; simp at hs; omega)).grow (by omega)
end Go.Proofs.YtekdnljincbghaaDoor
