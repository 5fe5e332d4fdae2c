/- The walks that read a command. -/
import Derived.Test.YtaagfoeedngdjaaDoorCmd9
import Derived.Test.YtaagfoeedngdjaaDoorOwnM
import Derived.Test.YtaagfoeedngdjaaDoorRead3
import Derived.Test.YtaagfoeedngdjaaDoorRegionU
namespace Go.Proofs.YtaagfoeedngdjaaDoor
open Go Go.RowKit Go.Lib

/-- k texts that are read. -/
def keysR : Nat → Int → List UInt8 → List ByteArray × Int × List UInt8
  | 0, e, l => ([], e, l)
  | k + 1, e, l => ((keysR k e l).1 ++ [⟨(textR 64 (keysR k e l).2.1 (keysR k e l).2.2).1.toArray⟩], (textR 64 (keysR k e l).2.1 (keysR k e l).2.2).2.1, (textR 64 (keysR k e l).2.1 (keysR k e l).2.2).2.2)
def zeroC : Cd := ⟨0, 0, 0, [], ⟨#[]⟩, ⟨#[]⟩, 0⟩
/-- A command that is read: whether its parts are small enough, the error, what is left. -/
def takeR (e : Int) (l : List UInt8) : (Cd × Bool) × Int × List UInt8 :=
  let r1 := uintE 10 0 0 e l
  let r2 := uintE 10 0 0 r1.2.1 r1.2.2
  let r3 := uintE 10 0 0 r2.2.1 r2.2.2
  let r4 := uintE 10 0 0 r3.2.1 r3.2.2
  if r1.1 ≤ 4294967295 ∧ r2.1 ≤ 4294967295 ∧ r3.1 ≤ 255 ∧ r4.1 ≤ 16 then
    let r5 := keysR r4.1 r4.2.1 r4.2.2
    let r6 := textR 64 r5.2.1 r5.2.2
    let r7 := textR 64 r6.2.1 r6.2.2
    let r8 := uintE 10 0 0 r7.2.1 r7.2.2
    ((⟨r1.1, r2.1, r3.1, r5.1, ⟨r6.1.toArray⟩, ⟨r7.1.toArray⟩, zag r8.1⟩, true), r8.2.1, r8.2.2)
  else ((zeroC, false), r4.2.1, r4.2.2)

set_option maxRecDepth 100000 in
theorem small_any (g : Nat) (bs : List Nat) (e : Int) (l : List UInt8) (lim : Int) (m n : Nat) (e' : Int) (l' : List UInt8) (w : World) (h : Rd w g bs e l lim) (hu : uintE 10 0 0 e l = (n, e', l')) :
    Calls Tryd.prog 26 #[.pointer (some ⟨g, 0, none⟩), .int .u64 (m : Int)] w fun r w' => r = .returned (.tuple #[.int .u64 (n : Int), .bool (decide (n ≤ m))]) ∧ Rd w' g bs e' l' lim ∧ Mod [g] w w' := by
  have HU := Lib.hid (ruint_any g bs e l lim w h)
  rw [hu] at HU
  clear h hu
  go_enter Tryd.func26, Tryd.ntmps26
  go_wp2_with fail
  refine HU.out.mono ?_
  rintro r w1 ⟨rfl, h1, m1⟩
  have H1 := Lib.hid (And.intro h1 m1)
  clear h1 m1 HU
  go_wp2_with fail
  go_ret2
  exact ⟨rfl, H1.out⟩

/-- What is told of a command that was read. -/
def TakeW (g : Nat) (bs : List Nat) (w : World) (t : (Cd × Bool) × Int × List UInt8) (r : Ending) (w' : World) : Prop :=
  ∃ kao kcap, r = .returned (.tuple #[cmdV (t.1.1, kao, kcap), .bool t.1.2]) ∧ Rd w' g bs t.2.1 t.2.2 64 ∧ SeesT w' kao t.1.1.keys ∧ Mod [g] w w' ∧ (∀ k, k ∈ blk kao → w.heap.size ≤ k)

abbrev zeroCells : Array Value := #[.int .u32 0, .int .u32 0, .int .u8 0, .slice none 0 0, .string ⟨#[]⟩, .string ⟨#[]⟩, .int .i64 0]
/-- The world in a command that is read: the reader, the result's cells, the command's cells. -/
structure TkR (w : World) (g : Nat) (bs : List Nat) (e : Int) (l : List UInt8) (cs : Array Value) (wr : World) : Prop where
  rd : Rd wr g bs e l 64
  zero : wr.heap[w.heap.size]? = some (.cells zeroCells 36 (0, 0))
  cmd : wr.heap[w.heap.size + 1]? = some (.cells cs 36 (0, 0))
  mod : Mod [g] w wr
theorem zeros (w : World) (g : Nat) (bs : List Nat) (e : Int) (l : List UInt8) (h : Rd w g bs e l 64) : ∃ w1, (w.alloc (.cells #[.int .u32 0, .int .u32 0, .int .u8 0, .slice none 0 0, .string ⟨#[]⟩, .string ⟨#[]⟩, .int .i64 0] 36)).alloc (.cells #[.int .u32 0, .int .u32 0, .int .u8 0, .slice none 0 0, .string ⟨#[]⟩, .string ⟨#[]⟩, .int .i64 0] 36) = w1 ∧ TkR w g bs e l zeroCells w1 := by
  have m1 := Mod.alloc [] w (.cells #[.int .u32 0, .int .u32 0, .int .u8 0, .slice none 0 0, .string ⟨#[]⟩, .string ⟨#[]⟩, .int .i64 0] 36)
  have m2 := Mod.alloc [] (w.alloc (.cells #[.int .u32 0, .int .u32 0, .int .u8 0, .slice none 0 0, .string ⟨#[]⟩, .string ⟨#[]⟩, .int .i64 0] 36)) (.cells #[.int .u32 0, .int .u32 0, .int .u8 0, .slice none 0 0, .string ⟨#[]⟩, .string ⟨#[]⟩, .int .i64 0] 36)
  refine ⟨_, rfl, h.mod (m1.trans' m2) List.not_mem_nil (fun _ _ => List.not_mem_nil), m2.get (heap_alloc_new w _) List.not_mem_nil, ?_, (m1.trans' m2).nil⟩
  have := heap_alloc_new (w.alloc (.cells #[.int .u32 0, .int .u32 0, .int .u8 0, .slice none 0 0, .string ⟨#[]⟩, .string ⟨#[]⟩, .int .i64 0] 36)) (.cells #[.int .u32 0, .int .u32 0, .int .u8 0, .slice none 0 0, .string ⟨#[]⟩, .string ⟨#[]⟩, .int .i64 0] 36)
  rwa [show (w.alloc (.cells #[.int .u32 0, .int .u32 0, .int .u8 0, .slice none 0 0, .string ⟨#[]⟩, .string ⟨#[]⟩, .int .i64 0] 36)).heap.size = w.heap.size + 1 by simp] at this
theorem TkR.read {w wr w' : World} {g : Nat} {bs : List Nat} {e e' : Int} {l l' : List UInt8} {cs : Array Value} (h : TkR w g bs e l cs wr) (hg : g < w.heap.size) (r : Rd w' g bs e' l' 64) (m : Mod [g] wr w') : TkR w g bs e' l' cs w' :=
  ⟨r, m.get h.zero (by simp; omega), m.get h.cmd (by simp; omega), h.mod.trans' m⟩

theorem mod7 (w : World) (b : Nat) (v0 v1 v2 v3 v4 v5 v6 : Value) : Mod [b] w (((((((w.setCell ⟨b, 0, none⟩ v0).setCell ⟨b, 1, none⟩ v1).setCell ⟨b, 2, none⟩ v2).setCell ⟨b, 3, none⟩ v3).setCell ⟨b, 4, none⟩ v4).setCell ⟨b, 5, none⟩ v5).setCell ⟨b, 6, none⟩ v6) :=
  (((((((Mod.setCell w _ _ (by simp)).trans' (Mod.setCell _ _ _ (by simp))).trans' (Mod.setCell _ _ _ (by simp))).trans' (Mod.setCell _ _ _ (by simp))).trans' (Mod.setCell _ _ _ (by simp))).trans' (Mod.setCell _ _ _ (by simp))).trans' (Mod.setCell _ _ _ (by simp)))
theorem TkR.done {w wr w' : World} {g : Nat} {bs : List Nat} {e : Int} {l : List UInt8} {cs : Array Value} (h : TkR w g bs e l cs wr) (hg : g < w.heap.size) (hb : ∀ k, k ∈ bs → k < w.heap.size) (m : Mod [w.heap.size] wr w') : Rd w' g bs e l 64 ∧ Mod [g] w w' :=
  ⟨h.rd.mod m (by simp; omega) (fun k hk h => by have := hb k hk; simp at h; omega), h.mod.trans m (by simp)⟩

theorem TkR.set {w wr : World} {g : Nat} {bs : List Nat} {e : Int} {l : List UInt8} {cs : Array Value} (h : TkR w g bs e l cs wr) (hg : g < w.heap.size) (hb : ∀ k, k ∈ bs → k < w.heap.size) (i : Nat) (v : Value) :
    TkR w g bs e l (cs.setIfInBounds i v) (wr.setCell ⟨w.heap.size + 1, i, none⟩ v) := by
  have m : Mod [w.heap.size + 1] wr (wr.setCell ⟨w.heap.size + 1, i, none⟩ v) := Mod.setCell wr _ _ (by simp)
  exact ⟨h.rd.mod m (by simp; omega) (fun k hk hm => by have := hb k hk; simp at hm; omega), m.get h.zero (by simp), heap_setCell_same h.cmd v, h.mod.trans m (by intro i hi hl; simp at hi; omega)⟩
theorem keysR_len (k : Nat) (e : Int) (l : List UInt8) : (keysR k e l).1.length = k := by
  induction k with
  | zero => rfl
  | succ k ih => show ((keysR k e l).1 ++ _).length = _; rw [List.length_append, ih]; rfl
theorem TkR.off {w wr w' : World} {g : Nat} {bs S : List Nat} {e : Int} {l : List UInt8} {cs : Array Value} (h : TkR w g bs e l cs wr) (hg : g < w.heap.size) (hb : ∀ k, k ∈ bs → k < w.heap.size) (m : Mod S wr w') (hS : ∀ k, k ∈ S → w.heap.size + 2 ≤ k) : TkR w g bs e l cs w' :=
  ⟨h.rd.mod m (fun hk => by have := hS _ hk; omega) (fun k hk hm => by have := hb k hk; have := hS k hm; omega), m.get h.zero (fun hk => by have := hS _ hk; omega), m.get h.cmd (fun hk => by have := hS _ hk; omega),
   h.mod.trans m (fun i hi hl => by have := hS i hi; omega)⟩
theorem seesT_of {w : World} {ao : Option Addr} {cap : Nat} {l : List ByteArray} (h : OwnM Value.string w 9 ao cap l) : SeesT w ao l := by
  intro j hj
  obtain ⟨g, h1, h2, _⟩ := h.at' hj
  exact ⟨g, 0, h1, by rw [Nat.zero_add]; exact h2⟩
theorem infoStrK : (Tryd.prog.info? 9).map (fun i => (i.zero, i.size, i.bytes)) = some (some (.string ⟨#[]⟩), 1, 16) := by kernel_rfl
/-- The rounds of the loop over the keys. -/
structure TkK (w : World) (g : Nat) (bs : List Nat) (e : Int) (l : List UInt8) (n1 n2 n3 k : Nat) (ka : Option Addr) (kc : Nat) (wr : World) : Prop where
  r : TkR w g bs (keysR k e l).2.1 (keysR k e l).2.2 #[.int .u32 (n1 : Int), .int .u32 (n2 : Int), .int .u8 (n3 : Int), .slice ka k kc, .string ⟨#[]⟩, .string ⟨#[]⟩, .int .i64 0] wr
  own : OwnM Value.string wr 9 ka kc (keysR k e l).1
  new : ∀ j, j ∈ blk ka → w.heap.size + 2 ≤ j

set_option maxRecDepth 100000 in
set_option maxHeartbeats 4000000 in
theorem take_any (g : Nat) (bs : List Nat) (e : Int) (l : List UInt8) (w : World) (h : Rd w g bs e l 64) (hbs : ∀ k, k ∈ bs → k < w.heap.size) :
    Calls Tryd.prog 27 #[.pointer (some ⟨g, 0, none⟩)] w (TakeW g bs w (takeR e l)) := by
  have hg := h.lt
  obtain ⟨⟨n1, e1, l1⟩, hu1⟩ : ∃ x, uintE 10 0 0 e l = x := ⟨_, rfl⟩
  obtain ⟨⟨n2, e2, l2⟩, hu2⟩ : ∃ x, uintE 10 0 0 e1 l1 = x := ⟨_, rfl⟩
  obtain ⟨⟨n3, e3, l3⟩, hu3⟩ : ∃ x, uintE 10 0 0 e2 l2 = x := ⟨_, rfl⟩
  obtain ⟨⟨n4, e4, l4⟩, hu4⟩ : ∃ x, uintE 10 0 0 e3 l3 = x := ⟨_, rfl⟩
  obtain ⟨tr, htr⟩ : ∃ x, takeR e l = x := ⟨_, rfl⟩
  rw [htr]
  have HTR : Hid (tr = if n1 ≤ 4294967295 ∧ n2 ≤ 4294967295 ∧ n3 ≤ 255 ∧ n4 ≤ 16 then
    ((⟨n1, n2, n3, (keysR n4 e4 l4).1, ⟨(textR 64 (keysR n4 e4 l4).2.1 (keysR n4 e4 l4).2.2).1.toArray⟩, ⟨(textR 64 (textR 64 (keysR n4 e4 l4).2.1 (keysR n4 e4 l4).2.2).2.1 (textR 64 (keysR n4 e4 l4).2.1 (keysR n4 e4 l4).2.2).2.2).1.toArray⟩,
      zag (uintE 10 0 0 (textR 64 (textR 64 (keysR n4 e4 l4).2.1 (keysR n4 e4 l4).2.2).2.1 (textR 64 (keysR n4 e4 l4).2.1 (keysR n4 e4 l4).2.2).2.2).2.1 (textR 64 (textR 64 (keysR n4 e4 l4).2.1 (keysR n4 e4 l4).2.2).2.1 (textR 64 (keysR n4 e4 l4).2.1 (keysR n4 e4 l4).2.2).2.2).2.2).1⟩, true),
      (uintE 10 0 0 (textR 64 (textR 64 (keysR n4 e4 l4).2.1 (keysR n4 e4 l4).2.2).2.1 (textR 64 (keysR n4 e4 l4).2.1 (keysR n4 e4 l4).2.2).2.2).2.1 (textR 64 (textR 64 (keysR n4 e4 l4).2.1 (keysR n4 e4 l4).2.2).2.1 (textR 64 (keysR n4 e4 l4).2.1 (keysR n4 e4 l4).2.2).2.2).2.2).2)
    else ((zeroC, false), e4, l4)) := Lib.hid (by rw [← htr]; unfold takeR; dsimp only; rw [hu1]; dsimp only; rw [hu2]; dsimp only; rw [hu3]; dsimp only; rw [hu4])
  have H := Lib.hid h
  have HB := Lib.hid hbs
  have U1 := Lib.hid hu1
  have U2 := Lib.hid hu2
  have U3 := Lib.hid hu3
  have U4 := Lib.hid hu4
  obtain ⟨w1, hw1, T1⟩ := zeros w g bs e l h
  replace T1 := Lib.hid T1
  clear h hbs hu1 hu2 hu3 hu4 htr
  go_enter Tryd.func27, Tryd.ntmps27
  go_wp2_with fail
  refine (small_any g bs e l 64 4294967295 n1 e1 l1 w1 T1.out.rd U1.out).mono ?_
  rintro r w2 ⟨rfl, r2, m2⟩
  have T2 := Lib.hid (T1.out.read hg r2 m2)
  clear r2 m2 T1 hw1
  go_wp2_with fail
  refine (small_any g bs e1 l1 64 4294967295 n2 e2 l2 w2 T2.out.rd U2.out).mono ?_
  rintro r w3 ⟨rfl, r3, m3⟩
  have T3 := Lib.hid (T2.out.read hg r3 m3)
  clear r3 m3 T2
  go_wp2_with fail
  refine (small_any g bs e2 l2 64 255 n3 e3 l3 w3 T3.out.rd U3.out).mono ?_
  rintro r w4 ⟨rfl, r4, m4⟩
  have T4 := Lib.hid (T3.out.read hg r4 m4)
  clear r4 m4 T3
  go_wp2_with fail
  refine (small_any g bs e3 l3 64 16 n4 e4 l4 w4 T4.out.rd U4.out).mono ?_
  rintro r w5 ⟨rfl, r5, m5⟩
  have T5 := Lib.hid (T4.out.read hg r5 m5)
  clear r5 m5 T4 U1 U2 U3 U4
  by_cases hsm : n1 ≤ 4294967295 ∧ n2 ≤ 4294967295 ∧ n3 ≤ 255 ∧ n4 ≤ 16
  case neg =>
    have HV : Hid (tr = ((zeroC, false), e4, l4)) := Lib.hid (HTR.out.trans (if_neg hsm))
    have C0 := cell_of_block (i := 0) T5.out.cmd
    have C1 := cell_of_block (i := 1) T5.out.cmd
    have C2 := cell_of_block (i := 2) T5.out.cmd
    have C3 := cell_of_block (i := 3) T5.out.cmd
    have C4 := cell_of_block (i := 4) T5.out.cmd
    have C5 := cell_of_block (i := 5) T5.out.cmd
    have C6 := cell_of_block (i := 6) T5.out.cmd
    have Z := T5.out.zero
    simp only [zeroCells, List.getElem?_toArray, List.getElem?_cons_succ, List.getElem?_cons_zero] at C0 C1 C2 C3 C4 C5 C6 Z
    have Z0 := cell_of_block (i := 0) Z
    have Z1 := cell_of_block (i := 1) Z
    have Z2 := cell_of_block (i := 2) Z
    have Z3 := cell_of_block (i := 3) Z
    have Z4 := cell_of_block (i := 4) Z
    have Z5 := cell_of_block (i := 5) Z
    have Z6 := cell_of_block (i := 6) Z
    simp only [List.getElem?_toArray, List.getElem?_cons_succ, List.getElem?_cons_zero] at Z0 Z1 Z2 Z3 Z4 Z5 Z6
    have F0 := free_of_block (i := 0) Z
    have F1 := free_of_block (i := 1) Z
    have F2 := free_of_block (i := 2) Z
    have F3 := free_of_block (i := 3) Z
    have F4 := free_of_block (i := 4) Z
    have F5 := free_of_block (i := 5) Z
    have F6 := free_of_block (i := 6) Z
    have HZ := Lib.hid Z
    obtain ⟨b1, B1⟩ : ∃ b, decide (n1 ≤ 4294967295) = b := ⟨_, rfl⟩
    obtain ⟨b2, B2⟩ : ∃ b, decide (n2 ≤ 4294967295) = b := ⟨_, rfl⟩
    obtain ⟨b3, B3⟩ : ∃ b, decide (n3 ≤ 255) = b := ⟨_, rfl⟩
    obtain ⟨b4, B4⟩ : ∃ b, decide (n4 ≤ 16) = b := ⟨_, rfl⟩
    have HBB : Hid (¬ (b1 = true ∧ b2 = true ∧ b3 = true ∧ b4 = true)) := Lib.hid (by
      rw [← B1, ← B2, ← B3, ← B4]
      simp only [decide_eq_true_eq]
      exact hsm)
    clear Z hsm HTR H
    have hb4 : b1 = false ∨ (b1 = true ∧ b2 = false) ∨ (b1 = true ∧ b2 = true ∧ b3 = false) ∨ (b1 = true ∧ b2 = true ∧ b3 = true ∧ b4 = false) := by
      have := HBB.out
      cases b1 <;> cases b2 <;> cases b3 <;> cases b4 <;> simp at this ⊢
    clear HBB
    rcases hb4 with h | ⟨h1, h⟩ | ⟨h1, h2, h⟩ | ⟨h1, h2, h3, h⟩
    · subst h
      go_wp2_with fail
      ((try simp only [Exit.inBlock, Exit.then]); refine bodyPost_ret (by simp [results, Tryd.results27, go_sem, *]; try rfl) rfl ?_)
      exact ⟨none, 0, by rw [HV.out]; rfl, by rw [HV.out]; exact (T5.out.done hg HB.out (mod7 _ _ _ _ _ _ _ _ _)).1, by rw [HV.out]; exact SeesT.nil _ _, (T5.out.done hg HB.out (mod7 _ _ _ _ _ _ _ _ _)).2, fun k hk => absurd hk List.not_mem_nil⟩
    · subst h h1
      go_wp2_with fail
      ((try simp only [Exit.inBlock, Exit.then]); refine bodyPost_ret (by simp [results, Tryd.results27, go_sem, *]; try rfl) rfl ?_)
      exact ⟨none, 0, by rw [HV.out]; rfl, by rw [HV.out]; exact (T5.out.done hg HB.out (mod7 _ _ _ _ _ _ _ _ _)).1, by rw [HV.out]; exact SeesT.nil _ _, (T5.out.done hg HB.out (mod7 _ _ _ _ _ _ _ _ _)).2, fun k hk => absurd hk List.not_mem_nil⟩
    · subst h h1 h2
      go_wp2_with fail
      ((try simp only [Exit.inBlock, Exit.then]); refine bodyPost_ret (by simp [results, Tryd.results27, go_sem, *]; try rfl) rfl ?_)
      exact ⟨none, 0, by rw [HV.out]; rfl, by rw [HV.out]; exact (T5.out.done hg HB.out (mod7 _ _ _ _ _ _ _ _ _)).1, by rw [HV.out]; exact SeesT.nil _ _, (T5.out.done hg HB.out (mod7 _ _ _ _ _ _ _ _ _)).2, fun k hk => absurd hk List.not_mem_nil⟩
    · subst h h1 h2 h3
      go_wp2_with fail
      ((try simp only [Exit.inBlock, Exit.then]); refine bodyPost_ret (by simp [results, Tryd.results27, go_sem, *]; try rfl) rfl ?_)
      exact ⟨none, 0, by rw [HV.out]; rfl, by rw [HV.out]; exact (T5.out.done hg HB.out (mod7 _ _ _ _ _ _ _ _ _)).1, by rw [HV.out]; exact SeesT.nil _ _, (T5.out.done hg HB.out (mod7 _ _ _ _ _ _ _ _ _)).2, fun k hk => absurd hk List.not_mem_nil⟩
  have HV := Lib.hid (HTR.out.trans (if_pos hsm))
  obtain ⟨hs1, hs2, hs3, hs4⟩ := hsm
  have D1 : decide (n1 ≤ 4294967295) = true := decide_eq_true hs1
  have D2 : decide (n2 ≤ 4294967295) = true := decide_eq_true hs2
  have D3 : decide (n3 ≤ 255) = true := decide_eq_true hs3
  have D4 : decide (n4 ≤ 16) = true := decide_eq_true hs4
  have X1 : (n1 : Int) % 4294967296 = n1 := by omega
  have X2 : (n2 : Int) % 4294967296 = n2 := by omega
  have X3 : (n3 : Int) % 256 = n3 := by omega
  have C0 := cell_of_block (i := 0) T5.out.cmd
  have C1 := cell_of_block (i := 1) T5.out.cmd
  have C2 := cell_of_block (i := 2) T5.out.cmd
  simp only [zeroCells, List.getElem?_toArray, List.getElem?_cons_succ, List.getElem?_cons_zero] at C0 C1 C2
  have F0 := free_of_block (i := 0) T5.out.cmd
  have F1 := free_of_block (i := 1) T5.out.cmd
  have F2 := free_of_block (i := 2) T5.out.cmd
  have T6 := Lib.hid (((T5.out.set hg HB.out 0 (.int .u32 (n1 : Int))).set hg HB.out 1 (.int .u32 (n2 : Int))).set hg HB.out 2 (.int .u8 (n3 : Int)))
  clear HTR H T5
  go_wp2_with fail
  clear C0 C1 C2 F0 F1 F2 D1 D2 D3 D4 X1 X2 X3
  go_loopw [58] (fun i wr => ∃ (k : Nat) (ka : Option Addr) (kc : Nat), k ≤ n4 ∧ i = .int .u64 (k : Int) ∧ TkK w g bs e4 l4 n1 n2 n3 k ka kc wr) (fun i _ => n4 - (intOf i).toNat)
  case atStart => exact ⟨0, none, 0, Nat.zero_le _, rfl, ⟨T6.out, OwnM.nil _ _ _, fun j hj => absurd hj List.not_mem_nil⟩⟩
  case round =>
    obtain ⟨k, ka, kc, hk, rfl, hT⟩ := hrel
    have HK := Lib.hid hT
    clear hT T6
    by_cases hlt : k < n4
    · go_upto_region 11 with (fail)
      refine restu_start 5 [g] (g :: (w.heap.size + 1) :: blk ka) 8 #[false, false, false, false, false, false, false, false] rfl (by kernel_rfl) (by kernel_rfl) ?_
      intro w6 m6
      have C3 := Lib.hid (cell_of_block (i := 3) (m6.get HK.out.r.cmd List.not_mem_nil))
      have K6 : Hid (TkK w g bs e4 l4 n1 n2 n3 k ka kc w6) := Lib.hid ⟨HK.out.r.read hg (HK.out.r.rd.mod m6 List.not_mem_nil (fun _ _ => List.not_mem_nil)) m6.nil, HK.out.own.mod0 m6, HK.out.new⟩
      have hgk : g ∉ blk ka := fun h => by have := HK.out.new g h; omega
      have hck : w.heap.size + 1 ∉ blk ka := fun h => by have := HK.out.new _ h; omega
      clear HK m6
      obtain ⟨ke, hke⟩ : ∃ x, (keysR k e4 l4).2.1 = x := ⟨_, rfl⟩
      obtain ⟨kl, hkl⟩ : ∃ x, (keysR k e4 l4).2.2 = x := ⟨_, rfl⟩
      obtain ⟨ks, hks⟩ : ∃ x, (keysR k e4 l4).1 = x := ⟨_, rfl⟩
      have HLK := Lib.hid (keysR_len k e4 l4)
      rw [hks] at HLK
      have HKS : Hid (keysR (k + 1) e4 l4 = (ks ++ [⟨(textR 64 ke kl).1.toArray⟩], (textR 64 ke kl).2.1, (textR 64 ke kl).2.2)) := Lib.hid (by rw [← hke, ← hkl, ← hks]; rfl)
      have R6 := Lib.hid K6.out.r
      have O6 := Lib.hid K6.out.own
      have N6 := Lib.hid K6.out.new
      rw [hke, hkl] at R6
      rw [hks] at O6
      clear K6 hke hkl hks
      obtain ⟨⟨tb, te, tl⟩, htx⟩ : ∃ x, textR 64 ke kl = x := ⟨_, rfl⟩
      rw [htx] at HKS
      have HR := Lib.hid (rtext_any g bs ke kl 64 w6 R6.out.rd (by omega) (by omega))
      rw [htx] at HR
      clear htx
      refine restu_got (i := 0) (v := ?v1) rfl (by kernel_rfl) (by kernel_rfl) (by kernel_rfl) (by rfl) (fun _ _ _ h => h) (by rfl) ?y1 ?r1
      case y1 => (intro w9q hSwq; clear hSwq; go_simp; with_reducible rfl)
      try simp only [Act.put, List.setIfInBounds_toArray, List.set_cons_zero, List.set_cons_succ]
      refine restu_early (i := 1) [5, 6, 7] (v := ?v2) rfl (by kernel_rfl) (by kernel_rfl) (by kernel_rfl) (by rfl) (by kernel_rfl) (by rfl) (by kernel_rfl) (fun _ _ _ h => h) (by rfl) ?y2 ?r2
      case y2 => ((intro w9' hm9'; have hc9' := Mod.cell hm9' C3.out (by first | exact List.not_mem_nil | assumption | (simp; done) | (simp; omega)); clear hm9'; go_simp; with_reducible rfl))
      try simp only [Act.put, List.setIfInBounds_toArray, List.set_cons_zero, List.set_cons_succ]
      refine restu_got (i := 2) (v := ?v3) rfl (by kernel_rfl) (by kernel_rfl) (by kernel_rfl) (by rfl) (fun _ _ _ h => h) (by rfl) ?y3 ?r3
      case y3 => (intro w9q hSwq; clear hSwq; go_simp; with_reducible rfl)
      try simp only [Act.put, List.setIfInBounds_toArray, List.set_cons_zero, List.set_cons_succ]
      refine restu_one (i := 3) (by kernel_rfl) rfl (by rfl) ?_
      go_wp2_with fail
      refine HR.out.mono ?_
      rintro r w7 ⟨rfl, r7, m7⟩
      have R7 := Lib.hid (R6.out.read hg r7 m7)
      have O7 := Lib.hid (O6.out.mod m7 (fun j hj hm => by simp at hm; subst hm; exact hgk hj))
      go_wp2_with fail
      refine backu_to (K' := [g]) (K2' := g :: (w.heap.size + 1) :: blk ka) m7 (by simp) (fun _ h _ => h) (fun _ h _ => h) ?_
      clear r7 m7 R6 O6 C3 HR
      
      refine restu_one (i := 4) (by kernel_rfl) rfl (by rfl) ?_
      go_wp2_with fail
      have m8 := Mod.alloc [] w7 (.cells #[strV tb] 9)
      have SH := Lib.hid (shows_one (f := Value.string) (x := (⟨tb.toArray⟩ : ByteArray)) (heap_alloc_new w7 (.cells #[strV tb] 9)))
      refine backu_to (K' := [g]) (K2' := g :: (w.heap.size + 1) :: blk ka) m8.nil (by simp) (fun _ h _ => h) (fun _ h _ => h) ?_
      have R8 := Lib.hid (R7.out.read hg (R7.out.rd.mod m8 List.not_mem_nil (fun _ _ => List.not_mem_nil)) m8.nil)
      have O8 := Lib.hid (O7.out.mod0 m8)
      clear m8 R7 O7
      
      refine restu_one (i := 5) (by kernel_rfl) rfl (by rfl) ?_
      go_wp2_with (first | (at_builtin; refine wpl_appM (f := Value.string) (dst := some 65) _ _ 34 _ 16 Tryd.underlying34 infoStrK rfl (fun _ => rfl) k ks rfl HLK.out O8.out _ 1 1 [(⟨tb.toArray⟩ : ByteArray)] rfl rfl SH.out (by omega) (by omega) ?_) | fail)
      intro a9 c9 w9 o9 m9 s9
      have R9 := Lib.hid (R8.out.off hg HB.out m9 N6.out)
      have O9 := Lib.hid o9
      have N9 : Hid (∀ j, j ∈ blk a9 → w.heap.size + 2 ≤ j) := Lib.hid (fun j hj => by
        rcases s9.blk j hj with h | h
        · exact N6.out j h
        · have := lt_of_block R8.out.cmd; omega)
      have C3 := cell_of_block (i := 3) R9.out.cmd
      simp only [List.getElem?_toArray, List.getElem?_cons_succ, List.getElem?_cons_zero] at C3
      have F3 := free_of_block (i := 3) R9.out.cmd
      go_wp2_with fail
      refine backm_to (K1 := [w.heap.size + 1]) (by kernel_rfl) (m9.weaken (fun j hj => by simp [hj])) (fun j hj _ => by simp at hj; simp [hj]) ?_
      clear o9 m9 s9 R8 O8 SH N6
      refine rest_got (i := 6) (v := ?v4) rfl (by kernel_rfl) (by kernel_rfl) (by kernel_rfl) (fun _ _ _ h => h) (by rfl) ?y4 ?r4
      case y4 => (intro w9q hSwq; clear hSwq; go_simp; with_reducible rfl)
      try simp only [Act.put, List.setIfInBounds_toArray, List.set_cons_zero, List.set_cons_succ]
      refine rest_one (i := 7) (by kernel_rfl) rfl (by rfl) ?_
      go_wp2_with fail
      have m10 : Mod [w.heap.size + 1] w9 (w9.setCell ⟨w.heap.size + 1, 3, none⟩ (.slice a9 (k + 1) c9)) := Mod.setCell _ _ _ (by simp)
      have T10 : Hid (TkK w g bs e4 l4 n1 n2 n3 (k + 1) a9 c9 (w9.setCell ⟨w.heap.size + 1, 3, none⟩ (.slice a9 (k + 1) c9))) := Lib.hid (by
        refine ⟨?_, ?_, N9.out⟩
        · rw [HKS.out]; exact R9.out.set hg HB.out 3 _
        · rw [HKS.out]; exact OwnM.mod O9.out m10 (fun j hj hm => by have := N9.out j hj; simp at hm; omega))
      refine back_to (K1 := []) m10 (by simp) ?_
      clear m10 C3 F3 R9 O9 N9
      refine rest_done (by kernel_rfl) ?_ _
      go_wp2_with fail
      go_roundw
      case rel => exact ⟨k + 1, a9, c9, by omega, by go_num, T10.out⟩
      case measure => simp [intOf]; omega
    · have hke : k = n4 := by omega
      subst hke
      have R := Lib.hid HK.out.r
      have O := Lib.hid HK.out.own
      have N := Lib.hid HK.out.new
      have HLK := Lib.hid (keysR_len k e4 l4)
      obtain ⟨⟨ks, ke, kl⟩, hks⟩ : ∃ x, keysR k e4 l4 = x := ⟨_, rfl⟩
      rw [hks] at HV R O HLK
      dsimp only at HV R O HLK
      clear HK hks
      obtain ⟨⟨t6, e6, l6⟩, h6⟩ : ∃ x, textR 64 ke kl = x := ⟨_, rfl⟩
      have C6 := Lib.hid (rtext_any g bs ke kl 64 wr R.out.rd (by omega) (by omega))
      rw [h6] at HV C6
      dsimp only at HV C6
      obtain ⟨⟨t7, e7, l7⟩, h7⟩ : ∃ x, textR 64 e6 l6 = x := ⟨_, rfl⟩
      rw [h7] at HV
      dsimp only at HV
      have H7 := Lib.hid h7
      obtain ⟨⟨n8, e8, l8⟩, h8⟩ : ∃ x, uintE 10 0 0 e7 l7 = x := ⟨_, rfl⟩
      rw [h8] at HV
      dsimp only at HV
      have H8 := Lib.hid h8
      clear h6 h7 h8
      go_wp2_with fail
      refine C6.out.mono ?_
      rintro r w6 ⟨rfl, r6, m6⟩
      have R6 := Lib.hid (R.out.read hg r6 m6)
      have O6 := Lib.hid (O.out.mod m6 (fun j hj hm => by have := N.out j hj; simp at hm; omega))
      have C7 := Lib.hid (rtext_any g bs e6 l6 64 w6 r6 (by omega) (by omega))
      rw [H7.out] at C7
      dsimp only at C7
      clear r6 m6 R O C6 H7
      go_wp2_with fail
      refine C7.out.mono ?_
      rintro r w7 ⟨rfl, r7, m7⟩
      have R7 := Lib.hid (R6.out.read hg r7 m7)
      have O7 := Lib.hid (O6.out.mod m7 (fun j hj hm => by have := N.out j hj; simp at hm; omega))
      have C8 := Lib.hid (rint_any g bs e7 l7 64 w7 r7)
      rw [H8.out] at C8
      dsimp only at C8
      clear r7 m7 R6 O6 C7 H8
      go_wp2_with fail
      refine C8.out.mono ?_
      rintro r w8 ⟨rfl, r8, m8⟩
      have R8 := Lib.hid (R7.out.read hg r8 m8)
      have O8 := Lib.hid (O7.out.mod m8 (fun j hj hm => by have := N.out j hj; simp at hm; omega))
      clear r8 m8 R7 O7 C8
      have R9 := Lib.hid (((R8.out.set hg HB.out 4 (strV t6)).set hg HB.out 5 (strV t7)).set hg HB.out 6 (.int .i64 (zag n8)))
      have C0 := cell_of_block (i := 0) R8.out.cmd
      have C1 := cell_of_block (i := 1) R8.out.cmd
      have C2 := cell_of_block (i := 2) R8.out.cmd
      have C3 := cell_of_block (i := 3) R8.out.cmd
      have C4 := cell_of_block (i := 4) R8.out.cmd
      have C5 := cell_of_block (i := 5) R8.out.cmd
      have C6 := cell_of_block (i := 6) R8.out.cmd
      have Z0 := cell_of_block (i := 0) R8.out.zero
      have Z1 := cell_of_block (i := 1) R8.out.zero
      have Z2 := cell_of_block (i := 2) R8.out.zero
      have Z3 := cell_of_block (i := 3) R8.out.zero
      have Z4 := cell_of_block (i := 4) R8.out.zero
      have Z5 := cell_of_block (i := 5) R8.out.zero
      have Z6 := cell_of_block (i := 6) R8.out.zero
      simp only [zeroCells, List.getElem?_toArray, List.getElem?_cons_succ, List.getElem?_cons_zero] at C0 C1 C2 C3 C4 C5 C6 Z0 Z1 Z2 Z3 Z4 Z5 Z6
      have F4 := free_of_block (i := 4) R8.out.cmd
      have F5 := free_of_block (i := 5) R8.out.cmd
      have F6 := free_of_block (i := 6) R8.out.cmd
      have G0 := free_of_block (i := 0) R8.out.zero
      have G1 := free_of_block (i := 1) R8.out.zero
      have G2 := free_of_block (i := 2) R8.out.zero
      have G3 := free_of_block (i := 3) R8.out.zero
      have G4 := free_of_block (i := 4) R8.out.zero
      have G5 := free_of_block (i := 5) R8.out.zero
      have G6 := free_of_block (i := 6) R8.out.zero
      go_wp2_with fail
      ((try simp only [Exit.inBlock, Exit.then]); refine bodyPost_ret (by simp [results, Tryd.results27, go_sem, *]; try rfl) rfl ?_)
      have hm4 : Mod [w.heap.size + 1] w8 (((w8.setCell ⟨w.heap.size + 1, 4, none⟩ (strV t6)).setCell ⟨w.heap.size + 1, 5, none⟩ (strV t7)).setCell ⟨w.heap.size + 1, 6, none⟩ (.int .i64 (zag n8))) :=
        ((Mod.setCell w8 _ _ (by simp)).trans' (Mod.setCell _ _ _ (by simp))).trans' (Mod.setCell _ _ _ (by simp))
      have O9 := OwnM.mod O8.out hm4 (fun j hj hm => by have := N.out j hj; simp at hm; omega)
      refine ⟨ka, kc, by rw [HV.out]; show _ = Ending.returned (.tuple #[cmdV (⟨n1, n2, n3, ks, ⟨t6.toArray⟩, ⟨t7.toArray⟩, zag n8⟩, ka, kc), .bool true]); unfold cmdV; dsimp only; rw [HLK.out], by rw [HV.out]; exact (R9.out.done hg HB.out (mod7 _ _ _ _ _ _ _ _ _)).1, ?_, (R9.out.done hg HB.out (mod7 _ _ _ _ _ _ _ _ _)).2, fun j hj => by have := N.out j hj; omega⟩
      rw [HV.out]
      exact (seesT_of O9).mod (mod7 _ _ _ _ _ _ _ _ _) (fun _ j hj hm => by have := N.out j hj; simp at hm; omega)
end Go.Proofs.YtaagfoeedngdjaaDoor
