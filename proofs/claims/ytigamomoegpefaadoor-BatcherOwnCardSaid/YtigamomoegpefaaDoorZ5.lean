/- Texts put together (5 of 7): Cmd10, Cmd11, Heap, BatLaw, Bat1, Bat2. -/
import Derived.Test.YtigamomoegpefaaDoorZ4
import Derived.Test.YtigamomoegpefaaDoorZ1
import Derived.WalkKit
import Derived.Test.YtigamomoegpefaaDoorZ3
import Derived.BigQuiet
/- The walks that read a command. -/
namespace Go.Proofs.YtigamomoegpefaaDoor
open Go Go.RowKit Go.Lib

/-- k texts that are read. -/
def keysR : Nat → Int → List UInt8 → List ByteArray × Int × List UInt8
  | 0, e, l => ([], e, l)
  | k + 1, e, l => ((keysR k e l).1 ++ [⟨(textR 1024 (keysR k e l).2.1 (keysR k e l).2.2).1.toArray⟩], (textR 1024 (keysR k e l).2.1 (keysR k e l).2.2).2.1, (textR 1024 (keysR k e l).2.1 (keysR k e l).2.2).2.2)
def zeroC : Cd := ⟨0, 0, 0, [], ⟨#[]⟩, ⟨#[]⟩, 0⟩
/-- A command that is read: whether its parts are small enough, the error, what is left. -/
def takeR (e : Int) (l : List UInt8) : (Cd × Bool) × Int × List UInt8 :=
  let r1 := uintE 10 0 0 e l
  let r2 := uintE 10 0 0 r1.2.1 r1.2.2
  let r3 := uintE 10 0 0 r2.2.1 r2.2.2
  let r4 := uintE 10 0 0 r3.2.1 r3.2.2
  if r1.1 ≤ 4294967295 ∧ r2.1 ≤ 4294967295 ∧ r3.1 ≤ 255 ∧ r4.1 ≤ 16 then
    let r5 := keysR r4.1 r4.2.1 r4.2.2
    let r6 := textR 1024 r5.2.1 r5.2.2
    let r7 := textR 1024 r6.2.1 r6.2.2
    let r8 := uintE 10 0 0 r7.2.1 r7.2.2
    ((⟨r1.1, r2.1, r3.1, r5.1, ⟨r6.1.toArray⟩, ⟨r7.1.toArray⟩, zag r8.1⟩, true), r8.2.1, r8.2.2)
  else ((zeroC, false), r4.2.1, r4.2.2)

set_option maxRecDepth 100000 in
theorem small_any (g : Nat) (bs : List Nat) (e : Int) (l : List UInt8) (lim : Int) (m n : Nat) (e' : Int) (l' : List UInt8) (w : World) (h : Rd w g bs e l lim) (hu : uintE 10 0 0 e l = (n, e', l')) :
    Calls Tryd.prog 53 #[.pointer (some ⟨g, 0, none⟩), .int .u64 (m : Int)] w fun r w' => r = .returned (.tuple #[.int .u64 (n : Int), .bool (decide (n ≤ m))]) ∧ Rd w' g bs e' l' lim ∧ Mod [g] w w' := by
  have HU := Lib.hid (ruint_any g bs e l lim w h)
  rw [hu] at HU
  clear h hu
  go_enter Tryd.func53, Tryd.ntmps53
  go_wp2_with fail
  refine HU.out.mono ?_
  rintro r w1 ⟨rfl, h1, m1⟩
  have H1 := Lib.hid (And.intro h1 m1)
  clear h1 m1 HU
  go_wp2_with fail
  go_ret2
  exact ⟨rfl, H1.out⟩

/-- What is told of a command that was read. -/
def TakeW (g : Nat) (bs : List Nat) (w : World) (t : (Cd × Bool) × Int × List UInt8) (r : Ending) (w' : World) : Prop :=
  ∃ kao kcap, r = .returned (.tuple #[cmdV (t.1.1, kao, kcap), .bool t.1.2]) ∧ Rd w' g bs t.2.1 t.2.2 1024 ∧ OwnM Value.string w' 9 kao kcap t.1.1.keys ∧ Mod [g] w w' ∧ (∀ k, k ∈ blk kao → w.heap.size ≤ k)

abbrev zeroCells : Array Value := #[.int .u32 0, .int .u32 0, .int .u8 0, .slice none 0 0, .string ⟨#[]⟩, .string ⟨#[]⟩, .int .i64 0]
/-- The world in a command that is read: the reader, the result's cells, the command's cells. -/
structure TkR (w : World) (g : Nat) (bs : List Nat) (e : Int) (l : List UInt8) (cs : Array Value) (wr : World) : Prop where
  rd : Rd wr g bs e l 1024
  zero : wr.heap[w.heap.size]? = some (.cells zeroCells 36 (0, 0))
  cmd : wr.heap[w.heap.size + 1]? = some (.cells cs 36 (0, 0))
  mod : Mod [g] w wr
theorem zeros (w : World) (g : Nat) (bs : List Nat) (e : Int) (l : List UInt8) (h : Rd w g bs e l 1024) : ∃ w1, (w.alloc (.cells #[.int .u32 0, .int .u32 0, .int .u8 0, .slice none 0 0, .string ⟨#[]⟩, .string ⟨#[]⟩, .int .i64 0] 36)).alloc (.cells #[.int .u32 0, .int .u32 0, .int .u8 0, .slice none 0 0, .string ⟨#[]⟩, .string ⟨#[]⟩, .int .i64 0] 36) = w1 ∧ TkR w g bs e l zeroCells w1 := by
  have m1 := Mod.alloc [] w (.cells #[.int .u32 0, .int .u32 0, .int .u8 0, .slice none 0 0, .string ⟨#[]⟩, .string ⟨#[]⟩, .int .i64 0] 36)
  have m2 := Mod.alloc [] (w.alloc (.cells #[.int .u32 0, .int .u32 0, .int .u8 0, .slice none 0 0, .string ⟨#[]⟩, .string ⟨#[]⟩, .int .i64 0] 36)) (.cells #[.int .u32 0, .int .u32 0, .int .u8 0, .slice none 0 0, .string ⟨#[]⟩, .string ⟨#[]⟩, .int .i64 0] 36)
  refine ⟨_, rfl, h.mod (m1.trans' m2) List.not_mem_nil (fun _ _ => List.not_mem_nil), m2.get (heap_alloc_new w _) List.not_mem_nil, ?_, (m1.trans' m2).nil⟩
  have := heap_alloc_new (w.alloc (.cells #[.int .u32 0, .int .u32 0, .int .u8 0, .slice none 0 0, .string ⟨#[]⟩, .string ⟨#[]⟩, .int .i64 0] 36)) (.cells #[.int .u32 0, .int .u32 0, .int .u8 0, .slice none 0 0, .string ⟨#[]⟩, .string ⟨#[]⟩, .int .i64 0] 36)
  rwa [show (w.alloc (.cells #[.int .u32 0, .int .u32 0, .int .u8 0, .slice none 0 0, .string ⟨#[]⟩, .string ⟨#[]⟩, .int .i64 0] 36)).heap.size = w.heap.size + 1 by simp] at this
theorem TkR.read {w wr w' : World} {g : Nat} {bs : List Nat} {e e' : Int} {l l' : List UInt8} {cs : Array Value} (h : TkR w g bs e l cs wr) (hg : g < w.heap.size) (r : Rd w' g bs e' l' 1024) (m : Mod [g] wr w') : TkR w g bs e' l' cs w' :=
  ⟨r, m.get h.zero (by simp; omega), m.get h.cmd (by simp; omega), h.mod.trans' m⟩

theorem mod7 (w : World) (b : Nat) (v0 v1 v2 v3 v4 v5 v6 : Value) : Mod [b] w (((((((w.setCell ⟨b, 0, none⟩ v0).setCell ⟨b, 1, none⟩ v1).setCell ⟨b, 2, none⟩ v2).setCell ⟨b, 3, none⟩ v3).setCell ⟨b, 4, none⟩ v4).setCell ⟨b, 5, none⟩ v5).setCell ⟨b, 6, none⟩ v6) :=
  (((((((Mod.setCell w _ _ (by simp)).trans' (Mod.setCell _ _ _ (by simp))).trans' (Mod.setCell _ _ _ (by simp))).trans' (Mod.setCell _ _ _ (by simp))).trans' (Mod.setCell _ _ _ (by simp))).trans' (Mod.setCell _ _ _ (by simp))).trans' (Mod.setCell _ _ _ (by simp)))
theorem TkR.done {w wr w' : World} {g : Nat} {bs : List Nat} {e : Int} {l : List UInt8} {cs : Array Value} (h : TkR w g bs e l cs wr) (hg : g < w.heap.size) (hb : ∀ k, k ∈ bs → k < w.heap.size) (m : Mod [w.heap.size] wr w') : Rd w' g bs e l 1024 ∧ Mod [g] w w' :=
  ⟨h.rd.mod m (by simp; omega) (fun k hk h => by have := hb k hk; simp at h; omega), h.mod.trans m (by simp)⟩

theorem TkR.set {w wr : World} {g : Nat} {bs : List Nat} {e : Int} {l : List UInt8} {cs : Array Value} (h : TkR w g bs e l cs wr) (hg : g < w.heap.size) (hb : ∀ k, k ∈ bs → k < w.heap.size) (i : Nat) (v : Value) :
    TkR w g bs e l (cs.setIfInBounds i v) (wr.setCell ⟨w.heap.size + 1, i, none⟩ v) := by
  have m : Mod [w.heap.size + 1] wr (wr.setCell ⟨w.heap.size + 1, i, none⟩ v) := Mod.setCell wr _ _ (by simp)
  exact ⟨h.rd.mod m (by simp; omega) (fun k hk hm => by have := hb k hk; simp at hm; omega), m.get h.zero (by simp), heap_setCell_same h.cmd v, h.mod.trans m (by intro i hi hl; simp at hi; omega)⟩
theorem keysR_len (k : Nat) (e : Int) (l : List UInt8) : (keysR k e l).1.length = k := by
  induction k with
  | zero => rfl
  | succ k ih => show ((keysR k e l).1 ++ _).length = _; rw [List.length_append, ih]; rfl
theorem TkR.off {w wr w' : World} {g : Nat} {bs S : List Nat} {e : Int} {l : List UInt8} {cs : Array Value} (h : TkR w g bs e l cs wr) (hg : g < w.heap.size) (hb : ∀ k, k ∈ bs → k < w.heap.size) (m : Mod S wr w') (hS : ∀ k, k ∈ S → w.heap.size + 2 ≤ k) : TkR w g bs e l cs w' :=
  ⟨h.rd.mod m (fun hk => by have := hS _ hk; omega) (fun k hk hm => by have := hb k hk; have := hS k hm; omega), m.get h.zero (fun hk => by have := hS _ hk; omega), m.get h.cmd (fun hk => by have := hS _ hk; omega),
   h.mod.trans m (fun i hi hl => by have := hS i hi; omega)⟩
theorem seesT_of {w : World} {ao : Option Addr} {cap : Nat} {l : List ByteArray} (h : OwnM Value.string w 9 ao cap l) : SeesT w ao l := by
  intro j hj
  obtain ⟨g, h1, h2, _⟩ := h.at' hj
  exact ⟨g, 0, h1, by rw [Nat.zero_add]; exact h2⟩
theorem infoStrK : (Tryd.prog.info? 9).map (fun i => (i.zero, i.size, i.bytes)) = some (some (.string ⟨#[]⟩), 1, 16) := by kernel_rfl
/-- The rounds of the loop over the keys. -/
structure TkK (w : World) (g : Nat) (bs : List Nat) (e : Int) (l : List UInt8) (n1 n2 n3 k : Nat) (ka : Option Addr) (kc : Nat) (wr : World) : Prop where
  r : TkR w g bs (keysR k e l).2.1 (keysR k e l).2.2 #[.int .u32 (n1 : Int), .int .u32 (n2 : Int), .int .u8 (n3 : Int), .slice ka k kc, .string ⟨#[]⟩, .string ⟨#[]⟩, .int .i64 0] wr
  own : OwnM Value.string wr 9 ka kc (keysR k e l).1
  new : ∀ j, j ∈ blk ka → w.heap.size + 2 ≤ j

set_option maxRecDepth 100000 in
set_option maxHeartbeats 4000000 in
theorem take_any (g : Nat) (bs : List Nat) (e : Int) (l : List UInt8) (w : World) (h : Rd w g bs e l 1024) (hbs : ∀ k, k ∈ bs → k < w.heap.size) :
    Calls Tryd.prog 50 #[.pointer (some ⟨g, 0, none⟩)] w (TakeW g bs w (takeR e l)) := by
  have hg := h.lt
  obtain ⟨⟨n1, e1, l1⟩, hu1⟩ : ∃ x, uintE 10 0 0 e l = x := ⟨_, rfl⟩
  obtain ⟨⟨n2, e2, l2⟩, hu2⟩ : ∃ x, uintE 10 0 0 e1 l1 = x := ⟨_, rfl⟩
  obtain ⟨⟨n3, e3, l3⟩, hu3⟩ : ∃ x, uintE 10 0 0 e2 l2 = x := ⟨_, rfl⟩
  obtain ⟨⟨n4, e4, l4⟩, hu4⟩ : ∃ x, uintE 10 0 0 e3 l3 = x := ⟨_, rfl⟩
  obtain ⟨tr, htr⟩ : ∃ x, takeR e l = x := ⟨_, rfl⟩
  rw [htr]
  have HTR : Hid (tr = if n1 ≤ 4294967295 ∧ n2 ≤ 4294967295 ∧ n3 ≤ 255 ∧ n4 ≤ 16 then
    ((⟨n1, n2, n3, (keysR n4 e4 l4).1, ⟨(textR 1024 (keysR n4 e4 l4).2.1 (keysR n4 e4 l4).2.2).1.toArray⟩, ⟨(textR 1024 (textR 1024 (keysR n4 e4 l4).2.1 (keysR n4 e4 l4).2.2).2.1 (textR 1024 (keysR n4 e4 l4).2.1 (keysR n4 e4 l4).2.2).2.2).1.toArray⟩,
      zag (uintE 10 0 0 (textR 1024 (textR 1024 (keysR n4 e4 l4).2.1 (keysR n4 e4 l4).2.2).2.1 (textR 1024 (keysR n4 e4 l4).2.1 (keysR n4 e4 l4).2.2).2.2).2.1 (textR 1024 (textR 1024 (keysR n4 e4 l4).2.1 (keysR n4 e4 l4).2.2).2.1 (textR 1024 (keysR n4 e4 l4).2.1 (keysR n4 e4 l4).2.2).2.2).2.2).1⟩, true),
      (uintE 10 0 0 (textR 1024 (textR 1024 (keysR n4 e4 l4).2.1 (keysR n4 e4 l4).2.2).2.1 (textR 1024 (keysR n4 e4 l4).2.1 (keysR n4 e4 l4).2.2).2.2).2.1 (textR 1024 (textR 1024 (keysR n4 e4 l4).2.1 (keysR n4 e4 l4).2.2).2.1 (textR 1024 (keysR n4 e4 l4).2.1 (keysR n4 e4 l4).2.2).2.2).2.2).2)
    else ((zeroC, false), e4, l4)) := Lib.hid (by rw [← htr]; unfold takeR; dsimp only; rw [hu1]; dsimp only; rw [hu2]; dsimp only; rw [hu3]; dsimp only; rw [hu4])
  have H := Lib.hid h
  have HB := Lib.hid hbs
  have U1 := Lib.hid hu1
  have U2 := Lib.hid hu2
  have U3 := Lib.hid hu3
  have U4 := Lib.hid hu4
  obtain ⟨w1, hw1, T1⟩ := zeros w g bs e l h
  replace T1 := Lib.hid T1
  clear h hbs hu1 hu2 hu3 hu4 htr
  go_enter Tryd.func50, Tryd.ntmps50
  go_wp2_with fail
  refine (small_any g bs e l 1024 4294967295 n1 e1 l1 w1 T1.out.rd U1.out).mono ?_
  rintro r w2 ⟨rfl, r2, m2⟩
  have T2 := Lib.hid (T1.out.read hg r2 m2)
  clear r2 m2 T1 hw1
  go_wp2_with fail
  refine (small_any g bs e1 l1 1024 4294967295 n2 e2 l2 w2 T2.out.rd U2.out).mono ?_
  rintro r w3 ⟨rfl, r3, m3⟩
  have T3 := Lib.hid (T2.out.read hg r3 m3)
  clear r3 m3 T2
  go_wp2_with fail
  refine (small_any g bs e2 l2 1024 255 n3 e3 l3 w3 T3.out.rd U3.out).mono ?_
  rintro r w4 ⟨rfl, r4, m4⟩
  have T4 := Lib.hid (T3.out.read hg r4 m4)
  clear r4 m4 T3
  go_wp2_with fail
  refine (small_any g bs e3 l3 1024 16 n4 e4 l4 w4 T4.out.rd U4.out).mono ?_
  rintro r w5 ⟨rfl, r5, m5⟩
  have T5 := Lib.hid (T4.out.read hg r5 m5)
  clear r5 m5 T4 U1 U2 U3 U4
  by_cases hsm : n1 ≤ 4294967295 ∧ n2 ≤ 4294967295 ∧ n3 ≤ 255 ∧ n4 ≤ 16
  case neg =>
    have HV : Hid (tr = ((zeroC, false), e4, l4)) := Lib.hid (HTR.out.trans (if_neg hsm))
    have C0 := cell_of_block (i := 0) T5.out.cmd
    have C1 := cell_of_block (i := 1) T5.out.cmd
    have C2 := cell_of_block (i := 2) T5.out.cmd
    have C3 := cell_of_block (i := 3) T5.out.cmd
    have C4 := cell_of_block (i := 4) T5.out.cmd
    have C5 := cell_of_block (i := 5) T5.out.cmd
    have C6 := cell_of_block (i := 6) T5.out.cmd
    have Z := T5.out.zero
    simp only [zeroCells, List.getElem?_toArray, List.getElem?_cons_succ, List.getElem?_cons_zero] at C0 C1 C2 C3 C4 C5 C6 Z
    have Z0 := cell_of_block (i := 0) Z
    have Z1 := cell_of_block (i := 1) Z
    have Z2 := cell_of_block (i := 2) Z
    have Z3 := cell_of_block (i := 3) Z
    have Z4 := cell_of_block (i := 4) Z
    have Z5 := cell_of_block (i := 5) Z
    have Z6 := cell_of_block (i := 6) Z
    simp only [List.getElem?_toArray, List.getElem?_cons_succ, List.getElem?_cons_zero] at Z0 Z1 Z2 Z3 Z4 Z5 Z6
    have F0 := free_of_block (i := 0) Z
    have F1 := free_of_block (i := 1) Z
    have F2 := free_of_block (i := 2) Z
    have F3 := free_of_block (i := 3) Z
    have F4 := free_of_block (i := 4) Z
    have F5 := free_of_block (i := 5) Z
    have F6 := free_of_block (i := 6) Z
    have HZ := Lib.hid Z
    obtain ⟨b1, B1⟩ : ∃ b, decide (n1 ≤ 4294967295) = b := ⟨_, rfl⟩
    obtain ⟨b2, B2⟩ : ∃ b, decide (n2 ≤ 4294967295) = b := ⟨_, rfl⟩
    obtain ⟨b3, B3⟩ : ∃ b, decide (n3 ≤ 255) = b := ⟨_, rfl⟩
    obtain ⟨b4, B4⟩ : ∃ b, decide (n4 ≤ 16) = b := ⟨_, rfl⟩
    have HBB : Hid (¬ (b1 = true ∧ b2 = true ∧ b3 = true ∧ b4 = true)) := Lib.hid (by
      rw [← B1, ← B2, ← B3, ← B4]
      simp only [decide_eq_true_eq]
      exact hsm)
    clear Z hsm HTR H
    have hb4 : b1 = false ∨ (b1 = true ∧ b2 = false) ∨ (b1 = true ∧ b2 = true ∧ b3 = false) ∨ (b1 = true ∧ b2 = true ∧ b3 = true ∧ b4 = false) := by
      have := HBB.out
      cases b1 <;> cases b2 <;> cases b3 <;> cases b4 <;> simp at this ⊢
    clear HBB
    rcases hb4 with h | ⟨h1, h⟩ | ⟨h1, h2, h⟩ | ⟨h1, h2, h3, h⟩
    · subst h
      go_wp2_with fail
      ((try simp only [Exit.inBlock, Exit.then]); refine bodyPost_ret (by simp [results, Tryd.results50, go_sem, *]; try rfl) rfl ?_)
      exact ⟨none, 0, by rw [HV.out]; rfl, by rw [HV.out]; exact (T5.out.done hg HB.out (mod7 _ _ _ _ _ _ _ _ _)).1, by rw [HV.out]; exact OwnM.nil _ _ _, (T5.out.done hg HB.out (mod7 _ _ _ _ _ _ _ _ _)).2, fun k hk => absurd hk List.not_mem_nil⟩
    · subst h h1
      go_wp2_with fail
      ((try simp only [Exit.inBlock, Exit.then]); refine bodyPost_ret (by simp [results, Tryd.results50, go_sem, *]; try rfl) rfl ?_)
      exact ⟨none, 0, by rw [HV.out]; rfl, by rw [HV.out]; exact (T5.out.done hg HB.out (mod7 _ _ _ _ _ _ _ _ _)).1, by rw [HV.out]; exact OwnM.nil _ _ _, (T5.out.done hg HB.out (mod7 _ _ _ _ _ _ _ _ _)).2, fun k hk => absurd hk List.not_mem_nil⟩
    · subst h h1 h2
      go_wp2_with fail
      ((try simp only [Exit.inBlock, Exit.then]); refine bodyPost_ret (by simp [results, Tryd.results50, go_sem, *]; try rfl) rfl ?_)
      exact ⟨none, 0, by rw [HV.out]; rfl, by rw [HV.out]; exact (T5.out.done hg HB.out (mod7 _ _ _ _ _ _ _ _ _)).1, by rw [HV.out]; exact OwnM.nil _ _ _, (T5.out.done hg HB.out (mod7 _ _ _ _ _ _ _ _ _)).2, fun k hk => absurd hk List.not_mem_nil⟩
    · subst h h1 h2 h3
      go_wp2_with fail
      ((try simp only [Exit.inBlock, Exit.then]); refine bodyPost_ret (by simp [results, Tryd.results50, go_sem, *]; try rfl) rfl ?_)
      exact ⟨none, 0, by rw [HV.out]; rfl, by rw [HV.out]; exact (T5.out.done hg HB.out (mod7 _ _ _ _ _ _ _ _ _)).1, by rw [HV.out]; exact OwnM.nil _ _ _, (T5.out.done hg HB.out (mod7 _ _ _ _ _ _ _ _ _)).2, fun k hk => absurd hk List.not_mem_nil⟩
  have HV := Lib.hid (HTR.out.trans (if_pos hsm))
  obtain ⟨hs1, hs2, hs3, hs4⟩ := hsm
  have D1 : decide (n1 ≤ 4294967295) = true := decide_eq_true hs1
  have D2 : decide (n2 ≤ 4294967295) = true := decide_eq_true hs2
  have D3 : decide (n3 ≤ 255) = true := decide_eq_true hs3
  have D4 : decide (n4 ≤ 16) = true := decide_eq_true hs4
  have X1 : (n1 : Int) % 4294967296 = n1 := by omega
  have X2 : (n2 : Int) % 4294967296 = n2 := by omega
  have X3 : (n3 : Int) % 256 = n3 := by omega
  have C0 := cell_of_block (i := 0) T5.out.cmd
  have C1 := cell_of_block (i := 1) T5.out.cmd
  have C2 := cell_of_block (i := 2) T5.out.cmd
  simp only [zeroCells, List.getElem?_toArray, List.getElem?_cons_succ, List.getElem?_cons_zero] at C0 C1 C2
  have F0 := free_of_block (i := 0) T5.out.cmd
  have F1 := free_of_block (i := 1) T5.out.cmd
  have F2 := free_of_block (i := 2) T5.out.cmd
  have T6 := Lib.hid (((T5.out.set hg HB.out 0 (.int .u32 (n1 : Int))).set hg HB.out 1 (.int .u32 (n2 : Int))).set hg HB.out 2 (.int .u8 (n3 : Int)))
  clear HTR H T5
  go_wp2_with fail
  clear C0 C1 C2 F0 F1 F2 D1 D2 D3 D4 X1 X2 X3
  go_loopw [58] (fun i wr => ∃ (k : Nat) (ka : Option Addr) (kc : Nat), k ≤ n4 ∧ i = .int .u64 (k : Int) ∧ TkK w g bs e4 l4 n1 n2 n3 k ka kc wr) (fun i _ => n4 - (intOf i).toNat)
  case atStart => exact ⟨0, none, 0, Nat.zero_le _, rfl, ⟨T6.out, OwnM.nil _ _ _, fun j hj => absurd hj List.not_mem_nil⟩⟩
  case round =>
    obtain ⟨k, ka, kc, hk, rfl, hT⟩ := hrel
    have HK := Lib.hid hT
    clear hT T6
    by_cases hlt : k < n4
    · go_upto_region 11 with (fail)
      refine restu_start 5 [g] (g :: (w.heap.size + 1) :: blk ka) 8 #[false, false, false, false, false, false, false, false] rfl (by kernel_rfl) (by kernel_rfl) ?_
      intro w6 m6
      have C3 := Lib.hid (cell_of_block (i := 3) (m6.get HK.out.r.cmd List.not_mem_nil))
      have K6 : Hid (TkK w g bs e4 l4 n1 n2 n3 k ka kc w6) := Lib.hid ⟨HK.out.r.read hg (HK.out.r.rd.mod m6 List.not_mem_nil (fun _ _ => List.not_mem_nil)) m6.nil, HK.out.own.mod0 m6, HK.out.new⟩
      have hgk : g ∉ blk ka := fun h => by have := HK.out.new g h; omega
      have hck : w.heap.size + 1 ∉ blk ka := fun h => by have := HK.out.new _ h; omega
      clear HK m6
      obtain ⟨ke, hke⟩ : ∃ x, (keysR k e4 l4).2.1 = x := ⟨_, rfl⟩
      obtain ⟨kl, hkl⟩ : ∃ x, (keysR k e4 l4).2.2 = x := ⟨_, rfl⟩
      obtain ⟨ks, hks⟩ : ∃ x, (keysR k e4 l4).1 = x := ⟨_, rfl⟩
      have HLK := Lib.hid (keysR_len k e4 l4)
      rw [hks] at HLK
      have HKS : Hid (keysR (k + 1) e4 l4 = (ks ++ [⟨(textR 1024 ke kl).1.toArray⟩], (textR 1024 ke kl).2.1, (textR 1024 ke kl).2.2)) := Lib.hid (by rw [← hke, ← hkl, ← hks]; rfl)
      have R6 := Lib.hid K6.out.r
      have O6 := Lib.hid K6.out.own
      have N6 := Lib.hid K6.out.new
      rw [hke, hkl] at R6
      rw [hks] at O6
      clear K6 hke hkl hks
      obtain ⟨⟨tb, te, tl⟩, htx⟩ : ∃ x, textR 1024 ke kl = x := ⟨_, rfl⟩
      rw [htx] at HKS
      have HR := Lib.hid (rtext_any g bs ke kl 1024 w6 R6.out.rd (by omega) (by omega))
      rw [htx] at HR
      clear htx
      refine restu_got (i := 0) (v := ?v1) rfl (by kernel_rfl) (by kernel_rfl) (by kernel_rfl) (by rfl) (fun _ _ _ h => h) (by rfl) ?y1 ?r1
      case y1 => (intro w9q hSwq; clear hSwq; go_simp; with_reducible rfl)
      try simp only [Act.put, List.setIfInBounds_toArray, List.set_cons_zero, List.set_cons_succ]
      refine restu_early (i := 1) [5, 6, 7] (v := ?v2) rfl (by kernel_rfl) (by kernel_rfl) (by kernel_rfl) (by rfl) (by kernel_rfl) (by rfl) (by kernel_rfl) (fun _ _ _ h => h) (by rfl) ?y2 ?r2
      case y2 => ((intro w9' hm9'; have hc9' := Mod.cell hm9' C3.out (by first | exact List.not_mem_nil | assumption | (simp; done) | (simp; omega)); clear hm9'; go_simp; with_reducible rfl))
      try simp only [Act.put, List.setIfInBounds_toArray, List.set_cons_zero, List.set_cons_succ]
      refine restu_got (i := 2) (v := ?v3) rfl (by kernel_rfl) (by kernel_rfl) (by kernel_rfl) (by rfl) (fun _ _ _ h => h) (by rfl) ?y3 ?r3
      case y3 => (intro w9q hSwq; clear hSwq; go_simp; with_reducible rfl)
      try simp only [Act.put, List.setIfInBounds_toArray, List.set_cons_zero, List.set_cons_succ]
      refine restu_one (i := 3) (by kernel_rfl) rfl (by rfl) ?_
      go_wp2_with fail
      refine HR.out.mono ?_
      rintro r w7 ⟨rfl, r7, m7⟩
      have R7 := Lib.hid (R6.out.read hg r7 m7)
      have O7 := Lib.hid (O6.out.mod m7 (fun j hj hm => by simp at hm; subst hm; exact hgk hj))
      go_wp2_with fail
      refine backu_to (K' := [g]) (K2' := g :: (w.heap.size + 1) :: blk ka) m7 (by simp) (fun _ h _ => h) (fun _ h _ => h) ?_
      clear r7 m7 R6 O6 C3 HR
      
      refine restu_one (i := 4) (by kernel_rfl) rfl (by rfl) ?_
      go_wp2_with fail
      have m8 := Mod.alloc [] w7 (.cells #[strV tb] 9)
      have SH := Lib.hid (shows_one (f := Value.string) (x := (⟨tb.toArray⟩ : ByteArray)) (heap_alloc_new w7 (.cells #[strV tb] 9)))
      refine backu_to (K' := [g]) (K2' := g :: (w.heap.size + 1) :: blk ka) m8.nil (by simp) (fun _ h _ => h) (fun _ h _ => h) ?_
      have R8 := Lib.hid (R7.out.read hg (R7.out.rd.mod m8 List.not_mem_nil (fun _ _ => List.not_mem_nil)) m8.nil)
      have O8 := Lib.hid (O7.out.mod0 m8)
      clear m8 R7 O7
      
      refine restu_one (i := 5) (by kernel_rfl) rfl (by rfl) ?_
      go_wp2_with (first | (at_builtin; refine wpl_appM (f := Value.string) (dst := some 65) _ _ 34 _ 16 Tryd.underlying34 infoStrK rfl (fun _ => rfl) k ks rfl HLK.out O8.out _ 1 1 [(⟨tb.toArray⟩ : ByteArray)] rfl rfl SH.out (by omega) (by omega) ?_) | fail)
      intro a9 c9 w9 o9 m9 s9
      have R9 := Lib.hid (R8.out.off hg HB.out m9 N6.out)
      have O9 := Lib.hid o9
      have N9 : Hid (∀ j, j ∈ blk a9 → w.heap.size + 2 ≤ j) := Lib.hid (fun j hj => by
        rcases s9.blk j hj with h | h
        · exact N6.out j h
        · have := lt_of_block R8.out.cmd; omega)
      have C3 := cell_of_block (i := 3) R9.out.cmd
      simp only [List.getElem?_toArray, List.getElem?_cons_succ, List.getElem?_cons_zero] at C3
      have F3 := free_of_block (i := 3) R9.out.cmd
      go_wp2_with fail
      refine backm_to (K1 := [w.heap.size + 1]) (by kernel_rfl) (m9.weaken (fun j hj => by simp [hj])) (fun j hj _ => by simp at hj; simp [hj]) ?_
      clear o9 m9 s9 R8 O8 SH N6
      refine rest_got (i := 6) (v := ?v4) rfl (by kernel_rfl) (by kernel_rfl) (by kernel_rfl) (fun _ _ _ h => h) (by rfl) ?y4 ?r4
      case y4 => (intro w9q hSwq; clear hSwq; go_simp; with_reducible rfl)
      try simp only [Act.put, List.setIfInBounds_toArray, List.set_cons_zero, List.set_cons_succ]
      refine rest_one (i := 7) (by kernel_rfl) rfl (by rfl) ?_
      go_wp2_with fail
      have m10 : Mod [w.heap.size + 1] w9 (w9.setCell ⟨w.heap.size + 1, 3, none⟩ (.slice a9 (k + 1) c9)) := Mod.setCell _ _ _ (by simp)
      have T10 : Hid (TkK w g bs e4 l4 n1 n2 n3 (k + 1) a9 c9 (w9.setCell ⟨w.heap.size + 1, 3, none⟩ (.slice a9 (k + 1) c9))) := Lib.hid (by
        refine ⟨?_, ?_, N9.out⟩
        · rw [HKS.out]; exact R9.out.set hg HB.out 3 _
        · rw [HKS.out]; exact OwnM.mod O9.out m10 (fun j hj hm => by have := N9.out j hj; simp at hm; omega))
      refine back_to (K1 := []) m10 (by simp) ?_
      clear m10 C3 F3 R9 O9 N9
      refine rest_done (by kernel_rfl) ?_ _
      go_wp2_with fail
      go_roundw
      case rel => exact ⟨k + 1, a9, c9, by omega, by go_num, T10.out⟩
      case measure => simp [intOf]; omega
    · have hke : k = n4 := by omega
      subst hke
      have R := Lib.hid HK.out.r
      have O := Lib.hid HK.out.own
      have N := Lib.hid HK.out.new
      have HLK := Lib.hid (keysR_len k e4 l4)
      obtain ⟨⟨ks, ke, kl⟩, hks⟩ : ∃ x, keysR k e4 l4 = x := ⟨_, rfl⟩
      rw [hks] at HV R O HLK
      dsimp only at HV R O HLK
      clear HK hks
      obtain ⟨⟨t6, e6, l6⟩, h6⟩ : ∃ x, textR 1024 ke kl = x := ⟨_, rfl⟩
      have C6 := Lib.hid (rtext_any g bs ke kl 1024 wr R.out.rd (by omega) (by omega))
      rw [h6] at HV C6
      dsimp only at HV C6
      obtain ⟨⟨t7, e7, l7⟩, h7⟩ : ∃ x, textR 1024 e6 l6 = x := ⟨_, rfl⟩
      rw [h7] at HV
      dsimp only at HV
      have H7 := Lib.hid h7
      obtain ⟨⟨n8, e8, l8⟩, h8⟩ : ∃ x, uintE 10 0 0 e7 l7 = x := ⟨_, rfl⟩
      rw [h8] at HV
      dsimp only at HV
      have H8 := Lib.hid h8
      clear h6 h7 h8
      go_wp2_with fail
      refine C6.out.mono ?_
      rintro r w6 ⟨rfl, r6, m6⟩
      have R6 := Lib.hid (R.out.read hg r6 m6)
      have O6 := Lib.hid (O.out.mod m6 (fun j hj hm => by have := N.out j hj; simp at hm; omega))
      have C7 := Lib.hid (rtext_any g bs e6 l6 1024 w6 r6 (by omega) (by omega))
      rw [H7.out] at C7
      dsimp only at C7
      clear r6 m6 R O C6 H7
      go_wp2_with fail
      refine C7.out.mono ?_
      rintro r w7 ⟨rfl, r7, m7⟩
      have R7 := Lib.hid (R6.out.read hg r7 m7)
      have O7 := Lib.hid (O6.out.mod m7 (fun j hj hm => by have := N.out j hj; simp at hm; omega))
      have C8 := Lib.hid (rint_any g bs e7 l7 1024 w7 r7)
      rw [H8.out] at C8
      dsimp only at C8
      clear r7 m7 R6 O6 C7 H8
      go_wp2_with fail
      refine C8.out.mono ?_
      rintro r w8 ⟨rfl, r8, m8⟩
      have R8 := Lib.hid (R7.out.read hg r8 m8)
      have O8 := Lib.hid (O7.out.mod m8 (fun j hj hm => by have := N.out j hj; simp at hm; omega))
      clear r8 m8 R7 O7 C8
      have R9 := Lib.hid (((R8.out.set hg HB.out 4 (strV t6)).set hg HB.out 5 (strV t7)).set hg HB.out 6 (.int .i64 (zag n8)))
      have C0 := cell_of_block (i := 0) R8.out.cmd
      have C1 := cell_of_block (i := 1) R8.out.cmd
      have C2 := cell_of_block (i := 2) R8.out.cmd
      have C3 := cell_of_block (i := 3) R8.out.cmd
      have C4 := cell_of_block (i := 4) R8.out.cmd
      have C5 := cell_of_block (i := 5) R8.out.cmd
      have C6 := cell_of_block (i := 6) R8.out.cmd
      have Z0 := cell_of_block (i := 0) R8.out.zero
      have Z1 := cell_of_block (i := 1) R8.out.zero
      have Z2 := cell_of_block (i := 2) R8.out.zero
      have Z3 := cell_of_block (i := 3) R8.out.zero
      have Z4 := cell_of_block (i := 4) R8.out.zero
      have Z5 := cell_of_block (i := 5) R8.out.zero
      have Z6 := cell_of_block (i := 6) R8.out.zero
      simp only [zeroCells, List.getElem?_toArray, List.getElem?_cons_succ, List.getElem?_cons_zero] at C0 C1 C2 C3 C4 C5 C6 Z0 Z1 Z2 Z3 Z4 Z5 Z6
      have F4 := free_of_block (i := 4) R8.out.cmd
      have F5 := free_of_block (i := 5) R8.out.cmd
      have F6 := free_of_block (i := 6) R8.out.cmd
      have G0 := free_of_block (i := 0) R8.out.zero
      have G1 := free_of_block (i := 1) R8.out.zero
      have G2 := free_of_block (i := 2) R8.out.zero
      have G3 := free_of_block (i := 3) R8.out.zero
      have G4 := free_of_block (i := 4) R8.out.zero
      have G5 := free_of_block (i := 5) R8.out.zero
      have G6 := free_of_block (i := 6) R8.out.zero
      go_wp2_with fail
      ((try simp only [Exit.inBlock, Exit.then]); refine bodyPost_ret (by simp [results, Tryd.results50, go_sem, *]; try rfl) rfl ?_)
      have hm4 : Mod [w.heap.size + 1] w8 (((w8.setCell ⟨w.heap.size + 1, 4, none⟩ (strV t6)).setCell ⟨w.heap.size + 1, 5, none⟩ (strV t7)).setCell ⟨w.heap.size + 1, 6, none⟩ (.int .i64 (zag n8))) :=
        ((Mod.setCell w8 _ _ (by simp)).trans' (Mod.setCell _ _ _ (by simp))).trans' (Mod.setCell _ _ _ (by simp))
      have O9 := OwnM.mod O8.out hm4 (fun j hj hm => by have := N.out j hj; simp at hm; omega)
      refine ⟨ka, kc, by rw [HV.out]; show _ = Ending.returned (.tuple #[cmdV (⟨n1, n2, n3, ks, ⟨t6.toArray⟩, ⟨t7.toArray⟩, zag n8⟩, ka, kc), .bool true]); unfold cmdV; dsimp only; rw [HLK.out], by rw [HV.out]; exact (R9.out.done hg HB.out (mod7 _ _ _ _ _ _ _ _ _)).1, ?_, (R9.out.done hg HB.out (mod7 _ _ _ _ _ _ _ _ _)).2, fun j hj => by have := N.out j hj; omega⟩
      rw [HV.out]
      exact OwnM.mod O9 (mod7 _ _ _ _ _ _ _ _ _) (fun j hj hm => by have := N.out j hj; simp at hm; omega)
end Go.Proofs.YtigamomoegpefaaDoor
/- The walk of cmd.Take; rows of commands of the call's own. -/
namespace Go.Proofs.YtigamomoegpefaaDoor
open Go Go.RowKit Go.Lib

/-- What is told of a command that was read, without whether its parts are small. -/
def TakeV (g : Nat) (bs : List Nat) (w : World) (t : (Cd × Bool) × Int × List UInt8) (r : Ending) (w' : World) : Prop :=
  ∃ kao kcap, r = .returned (cmdV (t.1.1, kao, kcap)) ∧ Rd w' g bs t.2.1 t.2.2 1024 ∧ OwnM Value.string w' 9 kao kcap t.1.1.keys ∧ Mod [g] w w' ∧ (∀ k, k ∈ blk kao → w.heap.size ≤ k)

set_option maxRecDepth 100000 in
set_option maxHeartbeats 4000000 in
theorem takeV_any (g : Nat) (bs : List Nat) (e : Int) (l : List UInt8) (w : World) (h : Rd w g bs e l 1024) (hbs : ∀ k, k ∈ bs → k < w.heap.size) :
    Calls Tryd.prog 36 #[.pointer (some ⟨g, 0, none⟩)] w (TakeV g bs w (takeR e l)) := by
  have hg := h.lt
  obtain ⟨w1, hw1, m1, z1⟩ : ∃ w1, w.alloc (.cells #[.int .u32 0, .int .u32 0, .int .u8 0, .slice none 0 0, .string ⟨#[]⟩, .string ⟨#[]⟩, .int .i64 0] 36) = w1 ∧ Mod [] w w1 ∧ w1.heap[w.heap.size]? = some (.cells zeroCells 36 (0, 0)) :=
    ⟨_, rfl, Mod.alloc _ _ _, heap_alloc_new w _⟩
  have HT := Lib.hid (take_any g bs e l w1 (h.mod m1 List.not_mem_nil (fun _ _ => List.not_mem_nil)) (fun k hk => Nat.lt_of_lt_of_le (hbs k hk) m1.size))
  obtain ⟨⟨⟨⟨client, seq, kind, keys, old, fresh, n⟩, ok⟩, e', l'⟩, htr⟩ : ∃ x, takeR e l = x := ⟨_, rfl⟩
  rw [htr] at HT ⊢
  have M1 := Lib.hid m1
  have Z1 := Lib.hid z1
  have HB := Lib.hid hbs
  have hz1 := lt_of_block z1
  clear h hbs m1 z1 htr
  go_enter Tryd.func36, Tryd.ntmps36
  go_wp2_with fail
  refine HT.out.mono ?_
  rintro r w2 ⟨kao, kcap, rfl, r2, s2, m2, n2⟩
  dsimp only at r2 s2
  unfold cmdV
  dsimp only
  obtain ⟨w3, hw3', M3, z3, q0, q1, q2, q3, q4, q5, q6⟩ := box_facts (⟨client, seq, kind, keys, old, fresh, n⟩, kao, kcap) w2
  dsimp only at hw3' q0 q1 q2 q3 q4 q5 q6
  have Z3 := M3.get (m2.get Z1.out (by simp; omega)) List.not_mem_nil
  have C0 := cell_of_block (i := 0) Z3
  have C1 := cell_of_block (i := 1) Z3
  have C2 := cell_of_block (i := 2) Z3
  have C3 := cell_of_block (i := 3) Z3
  have C4 := cell_of_block (i := 4) Z3
  have C5 := cell_of_block (i := 5) Z3
  have C6 := cell_of_block (i := 6) Z3
  simp only [zeroCells, List.getElem?_toArray, List.getElem?_cons_succ, List.getElem?_cons_zero] at C0 C1 C2 C3 C4 C5 C6
  have F0 := free_of_block (i := 0) Z3
  have F1 := free_of_block (i := 1) Z3
  have F2 := free_of_block (i := 2) Z3
  have F3 := free_of_block (i := 3) Z3
  have F4 := free_of_block (i := 4) Z3
  have F5 := free_of_block (i := 5) Z3
  have F6 := free_of_block (i := 6) Z3
  have R3 := Lib.hid (r2.mod M3 List.not_mem_nil (fun _ _ => List.not_mem_nil))
  have S3 := Lib.hid (OwnM.mod0 s2 M3)
  have HM := Lib.hid ((M1.out.nil.trans' m2).trans0 M3)
  have N2 := Lib.hid n2
  clear r2 s2 m2 n2 Z3 M3 hw1
  go_wp2_with fail
  ((try simp only [Exit.inBlock, Exit.then]); refine bodyPost_ret (by simp [results, Tryd.results36, go_sem, *]; try rfl) rfl ?_)
  refine ⟨kao, kcap, rfl, R3.out.mod (mod7 _ _ _ _ _ _ _ _ _) (by simp; omega) (fun k hk hm => by have := HB.out k hk; simp at hm; omega), OwnM.mod S3.out (mod7 _ _ _ _ _ _ _ _ _) (fun j hj hm => by have := N2.out j hj; simp at hm; omega), HM.out.trans (mod7 _ _ _ _ _ _ _ _ _) (by simp), fun k hk => by have := N2.out k hk; have := M1.out.size; omega⟩

/-- Rows of commands of the call's own. -/
def cellsC (l : List Cm) : List Value := l.flatMap cmdC
theorem cellsC_length (l : List Cm) : (cellsC l).length = l.length * 7 := by
  induction l with
  | nil => rfl
  | cons c l ih =>
    show (cmdC c ++ cellsC l).length = _
    rw [List.length_append, ih]
    show 7 + _ = (l.length + 1) * 7
    omega
theorem cellsC_at (l : List Cm) : ∀ (j : Nat) (hj : j < l.length) (i : Nat), i < 7 → (cellsC l)[j * 7 + i]? = (cmdC l[j])[i]? := by
  induction l with
  | nil => intro j hj; exact absurd hj (Nat.not_lt_zero _)
  | cons c l ih =>
    intro j hj i hi
    have e : cellsC (c :: l) = cmdC c ++ cellsC l := rfl
    have e7 : (cmdC c).length = 7 := rfl
    cases j with
    | zero =>
      rw [e, Nat.zero_mul, Nat.zero_add, List.getElem?_append_left (by omega)]
      rfl
    | succ j =>
      rw [e, List.getElem?_append_right (by omega), e7, show (j + 1) * 7 + i - 7 = j * 7 + i by omega, ih j (by simpa using hj) i hi]
      rfl
def OwnC (w : World) (ao : Option Addr) (cap : Nat) (l : List Cm) : Prop := Own w 36 7 ao l.length cap (cellsC l)
theorem OwnC.at' {w : World} {ao : Option Addr} {cap : Nat} {l : List Cm} (h : OwnC w ao cap l) {j : Nat} (hj : j < l.length) :
    ∃ g, ao = some ⟨g, 0, none⟩ ∧ ∀ i v, i < 7 → (cmdC l[j])[i]? = some v → w.cell? ⟨g, j * 7 + i, none⟩ = some v := by
  obtain ⟨g, h1, _⟩ := Own.cell h (j := j * 7 + 0) (u := .int .u32 (l[j].1.client : Int)) (by rw [cellsC_at l j hj 0 (by omega)]; rfl)
  refine ⟨g, h1, fun i v hi hv => ?_⟩
  obtain ⟨g', h1', h2', _⟩ := Own.cell h (j := j * 7 + i) (u := v) (by rw [cellsC_at l j hj i hi]; exact hv)
  rw [h1] at h1'
  cases h1'
  exact h2'
theorem OwnC.sees {w : World} {ao : Option Addr} {cap : Nat} {l : List Cm} (h : OwnC w ao cap l) (hk : ∀ c ∈ l, SeesT w c.2.1 c.1.keys) (hw : ∀ c ∈ l, Wf c.1) : SeesC w ao l := by
  intro j hj
  obtain ⟨g, h1, h2⟩ := h.at' hj
  have e0 : g = g := rfl
  refine ⟨g, 0, h1, ?_, ?_, ?_, ?_, ?_, ?_, ?_, hk _ (List.getElem_mem hj), hw _ (List.getElem_mem hj)⟩ <;> rw [Nat.zero_add]
  · exact h2 0 _ (by omega) rfl
  · exact h2 1 _ (by omega) rfl
  · exact h2 2 _ (by omega) rfl
  · exact h2 3 _ (by omega) rfl
  · exact h2 4 _ (by omega) rfl
  · exact h2 5 _ (by omega) rfl
  · exact h2 6 _ (by omega) rfl
theorem infoCmd : (Tryd.prog.info? 36).map (fun i => (i.zero, i.size, i.bytes)) = some (some (.agg #[.int .u32 0, .int .u32 0, .int .u8 0, .slice none 0 0, .string ⟨#[]⟩, .string ⟨#[]⟩, .int .i64 0]), 7, 80) := by kernel_rfl
theorem wpl_appC {w : World} {ops : Array Oper} {rest : List Oper} {a : Act} {Q : Exit → Act → World → Prop} {dst : Option Tmp} {ty : TypeId} {pos : String} {after : Array Edge} (s x : Operand)
    (ao : Option Addr) (n cap : Nat) (xs : List Cm) (hs : a.eval s = .slice ao n cap) (hn : xs.length = n) (hown : OwnC w ao cap xs)
    (g : Nat) (y : Cm) (hx : a.eval x = .slice (some ⟨g, 0, none⟩) 1 1) (hsh : Shows w (some ⟨g, 0, none⟩) (cellsC [y])) (hb : n + 1 ≤ 1000000)
    (h : ∀ ao' cap' w', OwnC w' ao' cap' (xs ++ [y]) → Mod (blk ao) w w' → SameOrNew w w' ao ao' → wpList Tryd.prog ops Q rest (a.put dst (.slice ao' (n + 1) cap')) w') :
    wpList Tryd.prog ops Q (⟨dst, .call { callee := .builtin .append, args := #[s, x], argTypes := #[31, 31] }, ty, pos, after, none⟩ :: rest) a w := by
  obtain ⟨i0, hi, hz0, hz1, hz2⟩ := info_parts infoCmd
  subst hn
  refine wpl_append w rfl s x 31 rfl 36 i0 _ 7 80 Tryd.underlying31 hi hz0 hz1 hz2 rfl (by decide) ao _ cap _ hs hown (some ⟨g, 0, none⟩) 1 1 (cellsC [y]) hx (cellsC_length [y]) hsh ?_ (by unfold maxLen; omega) (by omega) ?_
  · intro u hu
    obtain ⟨x, hx, hu⟩ := List.mem_flatMap.1 hu
    simp only [cmdC, List.mem_cons, List.not_mem_nil, or_false] at hu
    rcases hu with rfl | rfl | rfl | rfl | rfl | rfl | rfl <;> rfl
  · intro ao' cap' w' h1 h2 h3
    refine h ao' cap' w' ?_ h2 h3
    unfold OwnC cellsC
    rw [List.length_append, List.flatMap_append]
    exact h1
theorem showsC {w : World} {g : Nat} {x : Cm} {t : TypeId} {z : Nat × Nat} (h : w.heap[g]? = some (.cells (cmdC x).toArray t z)) : Shows w (some ⟨g, 0, none⟩) (cellsC [x]) := by
  intro j u hj
  refine ⟨_, rfl, ?_⟩
  rw [Addr.add_lit, cell_of_block h, Nat.zero_add]
  have : cellsC [x] = cmdC x := by simp [cellsC]
  rw [this] at hj
  rw [← hj]
  simp
end Go.Proofs.YtigamomoegpefaaDoor
/- A heap in a list: what goes up, what goes down, the least one. No program in sight. -/
namespace Go.Proofs.YtigamomoegpefaaDoor

/-- What waits: its due time, its place in the order, where its bytes lie. -/
abbrev He := Int × Int × Int × Int
def leH (a b : He) : Prop := a.1 < b.1 ∨ (a.1 = b.1 ∧ a.2.1 ≤ b.2.1)
def ltH (a b : He) : Prop := a.1 < b.1 ∨ (a.1 = b.1 ∧ a.2.1 < b.2.1)
instance (a b : He) : Decidable (leH a b) := inferInstanceAs (Decidable (_ ∨ _))
instance (a b : He) : Decidable (ltH a b) := inferInstanceAs (Decidable (_ ∨ _))
theorem leH.trans {a b c : He} (h : leH a b) (k : leH b c) : leH a c := by unfold leH at *; omega
theorem leH.refl (a : He) : leH a a := by unfold leH; omega
theorem not_ltH {a b : He} : ¬ ltH a b ↔ leH b a := by unfold ltH leH; omega
theorem ltH.le {a b : He} (h : ltH a b) : leH a b := by unfold ltH at h; unfold leH; omega
theorem leH.total (a b : He) : leH a b ∨ leH b a := by unfold leH; omega

def zH : He := (0, 0, 0, 0)
def aH (l : List He) (k : Nat) : He := l.getD k zH
theorem aH_get (l : List He) (k : Nat) (h : k < l.length) : aH l k = l[k] := by simp [aH, h]
theorem aH_mem (l : List He) (k : Nat) (h : k < l.length) : aH l k ∈ l := by rw [aH_get l k h]; exact List.getElem_mem h
def swp (l : List He) (i j : Nat) : List He := (l.set i (aH l j)).set j (aH l i)
theorem swp_length (l : List He) (i j : Nat) : (swp l i j).length = l.length := by simp [swp]
theorem aH_swp (l : List He) (i j k : Nat) (hi : i < l.length) (hj : j < l.length) : aH (swp l i j) k = if k = j then aH l i else if k = i then aH l j else aH l k := by
  unfold swp
  by_cases h1 : k = j
  · subst h1
    rw [if_pos rfl]
    show ((l.set i (aH l k)).set k (aH l i)).getD k zH = _
    rw [List.getD_eq_getElem?_getD, List.getElem?_set]
    simp [hj]
  · rw [if_neg h1]
    show ((l.set i (aH l j)).set j (aH l i)).getD k zH = _
    rw [List.getD_eq_getElem?_getD, List.getElem?_set, if_neg (fun h => h1 h.symm), List.getElem?_set]
    by_cases h2 : k = i
    · subst h2; simp [hi]
    · rw [if_neg (fun h => h2 h.symm), if_neg h2]
      simp [aH]
theorem swp_perm (l : List He) (i j : Nat) (hi : i < l.length) (hj : j < l.length) : (swp l i j).Perm l := by
  have h := Array.swap_perm (xs := l.toArray) (i := i) (j := j) (by simpa using hi) (by simpa using hj)
  rw [Array.perm_iff_toList_perm] at h
  have e : (l.toArray.swap i j (by simpa using hi) (by simpa using hj)).toList = swp l i j := by
    simp [swp, aH_get l i hi, aH_get l j hj]
  rw [e] at h
  exact h

/-- The first n are a heap. -/
def Heap (n : Nat) (l : List He) : Prop := ∀ k, 1 ≤ k → k < n → leH (aH l ((k - 1) / 2)) (aH l k)
theorem Heap.min {n : Nat} {l : List He} (h : Heap n l) : ∀ k, k < n → leH (aH l 0) (aH l k) := by
  intro k
  induction k using Nat.strongRecOn with
  | _ k ih =>
    intro hk
    by_cases h0 : k = 0
    · subst h0; exact leH.refl _
    · exact (ih ((k - 1) / 2) (by omega) (by omega)).trans (h k (by omega) hk)
structure UpInv (n : Nat) (l : List He) (j : Nat) : Prop where
  others : ∀ k, 1 ≤ k → k < n → k ≠ j → leH (aH l ((k - 1) / 2)) (aH l k)
  below : ∀ k, 1 ≤ k → k < n → (k - 1) / 2 = j → 1 ≤ j → leH (aH l ((j - 1) / 2)) (aH l k)
theorem aH_append (l : List He) (x : He) (k : Nat) : aH (l ++ [x]) k = if k < l.length then aH l k else if k = l.length then x else zH := by
  unfold aH
  rw [List.getD_eq_getElem?_getD, List.getD_eq_getElem?_getD]
  by_cases h : k < l.length
  · rw [if_pos h, List.getElem?_append_left h]
  · rw [if_neg h, List.getElem?_append_right (by omega)]
    by_cases h2 : k = l.length
    · subst h2; simp
    · rw [if_neg h2, List.getElem?_eq_none (by simp; omega)]; rfl
theorem up_start {l : List He} (h : Heap l.length l) (x : He) : UpInv (l.length + 1) (l ++ [x]) l.length := by
  refine ⟨fun k h1 h2 h3 => ?_, fun k h1 h2 h3 h4 => by omega⟩
  rw [aH_append, aH_append, if_pos (by omega), if_pos (by omega)]
  exact h k h1 (by omega)
theorem UpInv.stop0 {n : Nat} {l : List He} (h : UpInv n l 0) : Heap n l := fun k h1 h2 => h.others k h1 h2 (by omega)
theorem UpInv.halt {n : Nat} {l : List He} {j : Nat} (h : UpInv n l j) (hj : leH (aH l ((j - 1) / 2)) (aH l j)) : Heap n l := fun k h1 h2 => by
  by_cases hk : k = j
  · subst hk; exact hj
  · exact h.others k h1 h2 hk
theorem UpInv.step {n : Nat} {l : List He} {j : Nat} (h : UpInv n l j) (hn : n ≤ l.length) (hj1 : 1 ≤ j) (hj : j < n) (hlt : ltH (aH l j) (aH l ((j - 1) / 2))) : UpInv n (swp l ((j - 1) / 2) j) ((j - 1) / 2) := by
  have hi : (j - 1) / 2 < j := by omega
  have hs : ∀ k, aH (swp l ((j - 1) / 2) j) k = if k = j then aH l ((j - 1) / 2) else if k = (j - 1) / 2 then aH l j else aH l k := fun k => aH_swp l _ j k (by omega) (by omega)
  have ho := h.others
  have hb := h.below
  obtain ⟨i, hie⟩ : ∃ i, (j - 1) / 2 = i := ⟨_, rfl⟩
  rw [hie] at hs hlt hi ⊢
  refine ⟨fun k h1 h2 h3 => ?_, fun k h1 h2 h3 h4 => ?_⟩
  · rw [hs, hs k, if_neg h3]
    by_cases hk : k = j
    · subst hk
      rw [hie, if_neg (by omega), if_pos rfl, if_pos rfl]
      exact hlt.le
    · rw [if_neg hk]
      by_cases hp : (k - 1) / 2 = j
      · rw [if_pos hp]
        have := hb k h1 h2 hp hj1
        rw [hie] at this
        exact this
      · rw [if_neg hp]
        by_cases hq : (k - 1) / 2 = i
        · rw [if_pos hq]
          have := ho k h1 h2 hk
          rw [hq] at this
          exact hlt.le.trans this
        · rw [if_neg hq]; exact ho k h1 h2 hk
  · rw [hs, hs k, if_neg (by omega), if_neg (by omega)]
    have hpi := ho i h4 (by omega) (by omega)
    by_cases hk : k = j
    · rw [if_pos hk]; exact hpi
    · rw [if_neg hk, if_neg (by omega)]
      have := ho k h1 h2 hk
      rw [h3] at this
      exact hpi.trans this
structure DownInv (n : Nat) (l : List He) (i : Nat) : Prop where
  others : ∀ k, 1 ≤ k → k < n → (k - 1) / 2 ≠ i → leH (aH l ((k - 1) / 2)) (aH l k)
  below : ∀ k, 1 ≤ k → k < n → (k - 1) / 2 = i → 1 ≤ i → leH (aH l ((i - 1) / 2)) (aH l k)
theorem down_start {n : Nat} {l : List He} (h : Heap (n + 1) l) (hn : n + 1 = l.length) : DownInv n (swp l 0 n) 0 := by
  refine ⟨fun k h1 h2 h3 => ?_, fun k _ _ _ h4 => by omega⟩
  rw [aH_swp l 0 n _ (by omega) (by omega), aH_swp l 0 n k (by omega) (by omega), if_neg (by omega), if_neg (by omega), if_neg (by omega), if_neg (by omega)]
  exact h k h1 (by omega)
theorem DownInv.stop1 {n : Nat} {l : List He} {i : Nat} (h : DownInv n l i) (hi : n ≤ 2 * i + 1) : Heap n l := fun k h1 h2 => h.others k h1 h2 (by omega)
theorem DownInv.halt {n : Nat} {l : List He} {i : Nat} (h : DownInv n l i) (hi : ∀ k, k < n → k = 2 * i + 1 ∨ k = 2 * i + 2 → leH (aH l i) (aH l k)) : Heap n l := fun k h1 h2 => by
  by_cases hk : (k - 1) / 2 = i
  · rw [hk]; exact hi k h2 (by omega)
  · exact h.others k h1 h2 hk
theorem DownInv.step {n : Nat} {l : List He} {i j : Nat} (h : DownInv n l i) (hn : n ≤ l.length) (hj : j = 2 * i + 1 ∨ j = 2 * i + 2) (hjn : j < n) (hlt : ltH (aH l j) (aH l i))
    (hmin : ∀ k, k < n → k = 2 * i + 1 ∨ k = 2 * i + 2 → leH (aH l j) (aH l k)) : DownInv n (swp l i j) j := by
  have hs : ∀ k, aH (swp l i j) k = if k = j then aH l i else if k = i then aH l j else aH l k := fun k => aH_swp l i j k (by omega) (by omega)
  have ho := h.others
  have hb := h.below
  refine ⟨fun k h1 h2 h3 => ?_, fun k h1 h2 h3 h4 => ?_⟩
  · rw [hs, hs k, if_neg h3]
    by_cases hp : (k - 1) / 2 = i
    · rw [if_pos hp]
      by_cases hk : k = j
      · rw [if_pos hk]; exact hlt.le
      · rw [if_neg hk, if_neg (by omega)]; exact hmin k h2 (by omega)
    · rw [if_neg hp, if_neg (by omega)]
      by_cases hk : k = i
      · subst hk
        rw [if_pos rfl]
        exact hb j (by omega) hjn (by omega) h1
      · rw [if_neg hk]; exact ho k h1 h2 hp
  · rw [hs, hs k, if_neg (by omega), if_pos (by omega), if_neg (by omega), if_neg (by omega)]
    have := ho k h1 h2 (by omega)
    rw [h3] at this
    exact this
end Go.Proofs.YtigamomoegpefaaDoor
/- What waits, in the order in which it was put: the eldest one, so many from the eldest on. No program in sight. -/
namespace Go.Proofs.YtigamomoegpefaaDoor
section
variable {γ : Type}
def dueOf (R : List (γ × Int)) (i : Nat) : Int := ((R[i]?).map (fun e => e.2)).getD 0
theorem dueOf_get (R : List (γ × Int)) (i : Nat) (h : i < R.length) : dueOf R i = R[i].2 := by simp [dueOf, h]
/-- The eldest one's place among the first ones. -/
def eldF (R : List (γ × Int)) : Nat → Option Nat
  | 0 => none
  | i + 1 => match eldF R i with
    | none => some i
    | some k => if dueOf R i < dueOf R k then some i else some k
theorem eldF_spec (R : List (γ × Int)) : ∀ i, (i = 0 ∧ eldF R i = none) ∨ ∃ k, eldF R i = some k ∧ k < i ∧ (∀ j, j < i → dueOf R k ≤ dueOf R j) ∧ ∀ j, j < k → dueOf R k < dueOf R j := by
  intro i
  induction i with
  | zero => exact .inl ⟨rfl, rfl⟩
  | succ i ih =>
    right
    rcases ih with ⟨rfl, h⟩ | ⟨k, h, h1, h2, h3⟩
    · exact ⟨0, rfl, by omega, fun j hj => by rw [show j = 0 by omega]; exact Int.le_refl _, fun j hj => by omega⟩
    · unfold eldF
      rw [h]
      dsimp only
      by_cases hd : dueOf R i < dueOf R k
      · rw [if_pos hd]
        refine ⟨i, rfl, by omega, fun j hj => ?_, fun j hj => ?_⟩
        · by_cases hji : j = i
          · subst hji; exact Int.le_refl _
          · have := h2 j (by omega); omega
        · have := h2 j hj; omega
      · rw [if_neg hd]
        refine ⟨k, rfl, by omega, fun j hj => ?_, h3⟩
        by_cases hji : j = i
        · subst hji; omega
        · exact h2 j (by omega)
def eldI (R : List (γ × Int)) : Nat := (eldF R R.length).getD 0
theorem eldI_some (R : List (γ × Int)) (h : 0 < R.length) : eldF R R.length = some (eldI R) ∧ eldI R < R.length ∧ (∀ j, j < R.length → dueOf R (eldI R) ≤ dueOf R j) ∧ ∀ j, j < eldI R → dueOf R (eldI R) < dueOf R j := by
  rcases eldF_spec R R.length with ⟨h0, _⟩ | ⟨k, h1, h2, h3, h4⟩
  · omega
  · have : eldI R = k := by unfold eldI; rw [h1]; rfl
    rw [this]
    exact ⟨h1, h2, h3, h4⟩
theorem eldI_unique (R : List (γ × Int)) (k : Nat) (hk : k < R.length) (h1 : ∀ j, j < R.length → dueOf R k ≤ dueOf R j) (h2 : ∀ j, j < k → dueOf R k < dueOf R j) : eldI R = k := by
  obtain ⟨_, a, b, c⟩ := eldI_some R (by omega)
  have d := b k hk
  have e := h1 _ a
  rcases Nat.lt_trichotomy (eldI R) k with h | h | h
  · have := h2 _ h; omega
  · exact h
  · have := c _ h; omega
/-- So many, from the eldest on. -/
def takeN : Nat → List (γ × Int) → List γ × List (γ × Int)
  | 0, R => ([], R)
  | n + 1, R => match R[eldI R]? with
    | none => ([], R)
    | some x => (x.1 :: (takeN n (R.eraseIdx (eldI R))).1, (takeN n (R.eraseIdx (eldI R))).2)
theorem takeN_nil (n : Nat) : takeN n ([] : List (γ × Int)) = ([], []) := by cases n <;> rfl
theorem takeN_succ (n : Nat) (R : List (γ × Int)) (x : γ × Int) (h : R[eldI R]? = some x) : takeN (n + 1) R = (x.1 :: (takeN n (R.eraseIdx (eldI R))).1, (takeN n (R.eraseIdx (eldI R))).2) := by
  rw [takeN, h]
theorem eldI_get (R : List (γ × Int)) (h : 0 < R.length) : ∃ x, R[eldI R]? = some x := ⟨_, List.getElem?_eq_getElem (eldI_some R h).2.1⟩
theorem takeN_len (n : Nat) : ∀ R : List (γ × Int), (takeN n R).1.length = min n R.length ∧ (takeN n R).2.length = R.length - min n R.length := by
  induction n with
  | zero => intro R; simp [takeN]
  | succ n ih =>
    intro R
    by_cases h : 0 < R.length
    · obtain ⟨x, hx⟩ := eldI_get R h
      rw [takeN_succ n R x hx]
      have hl : (R.eraseIdx (eldI R)).length = R.length - 1 := by rw [List.length_eraseIdx, if_pos (eldI_some R h).2.1]
      obtain ⟨h1, h2⟩ := ih (R.eraseIdx (eldI R))
      rw [hl] at h1 h2
      exact ⟨by rw [List.length_cons, h1]; omega, by rw [h2]; omega⟩
    · have : R = [] := List.eq_nil_of_length_eq_zero (by omega)
      subst this
      rw [takeN_nil]; simp

/-- What the reference has of entries. -/
def refL (L : List (γ × He)) : List (γ × Int) := L.map fun e => (e.1, e.2.1)
theorem refL_length (L : List (γ × He)) : (refL L).length = L.length := by simp [refL]
theorem refL_due (L : List (γ × He)) (j : Nat) (h : j < L.length) : dueOf (refL L) j = L[j].2.1 := by simp [dueOf, refL, h]
theorem refL_erase (L : List (γ × He)) (k : Nat) : refL (L.eraseIdx k) = (refL L).eraseIdx k := by
  unfold refL
  apply List.ext_getElem?
  intro i
  rw [List.getElem?_map, List.getElem?_eraseIdx, List.getElem?_eraseIdx]
  split <;> rw [List.getElem?_map]
theorem erase_perm {α : Type} (l : List α) : ∀ (k : Nat) (h : k < l.length), (l[k] :: l.eraseIdx k).Perm l := by
  induction l with
  | nil => intro k h; exact absurd h (by simp)
  | cons x r ih =>
    intro k h
    cases k with
    | zero => exact List.Perm.refl _
    | succ k =>
      have := ih k (by simpa using h)
      rw [List.eraseIdx_cons_succ]
      exact (List.Perm.swap x _ _).trans (this.cons x)
theorem eld_heap {L : List (γ × He)} {hs : List He} (ho : L.Pairwise (fun a b => a.2.2.1 < b.2.2.1)) (hp : hs.Perm (L.map (fun e => e.2))) (hh : Heap hs.length hs) (h0 : 0 < hs.length) :
    ∃ x, L[eldI (refL L)]? = some x ∧ x.2 = aH hs 0 := by
  have hmem : aH hs 0 ∈ L.map (fun e => e.2) := hp.mem_iff.1 (aH_mem hs 0 h0)
  have hmin : ∀ e ∈ L, leH (aH hs 0) e.2 := by
    intro e he
    have : e.2 ∈ hs := hp.mem_iff.2 (List.mem_map.2 ⟨e, he, rfl⟩)
    obtain ⟨k, hk, e1⟩ := List.getElem_of_mem this
    have := hh.min k hk
    rw [aH_get hs k hk, e1] at this
    exact this
  obtain ⟨x, hx, e1⟩ := List.mem_map.1 hmem
  obtain ⟨j, hj, e2⟩ := List.getElem_of_mem hx
  have hk : eldI (refL L) = j := by
    refine eldI_unique _ j (by rw [refL_length]; exact hj) (fun i hi => ?_) (fun i hi => ?_)
    · rw [refL_length] at hi
      rw [refL_due L j hj, refL_due L i hi, e2, e1]
      have := hmin _ (List.getElem_mem hi)
      unfold leH at this
      omega
    · have hi' : i < L.length := by omega
      rw [refL_due L j hj, refL_due L i hi', e2, e1]
      have h1 := hmin _ (List.getElem_mem hi')
      have h2 := List.pairwise_iff_getElem.1 ho i j hi' hj hi
      rw [e2, e1] at h2
      unfold leH at h1
      omega
  refine ⟨x, ?_, e1⟩
  rw [hk, List.getElem?_eq_getElem hj, e2]
theorem perm_erase {L : List (γ × He)} {hs hs' : List He} {k : Nat} {x : γ × He} (hp : hs.Perm (L.map (fun e => e.2))) (hk : L[k]? = some x) (h : (x.2 :: hs').Perm hs) : hs'.Perm ((L.eraseIdx k).map (fun e => e.2)) := by
  obtain ⟨hlt, rfl⟩ := List.getElem?_eq_some_iff.1 hk
  have h1 : (L[k] :: L.eraseIdx k).Perm L := erase_perm L k hlt
  have h2 : (L[k].2 :: (L.eraseIdx k).map (fun e => e.2)).Perm (L.map (fun e => e.2)) := h1.map _
  exact (List.perm_cons _).1 ((h.trans hp).trans h2.symm)

/-- Where nothing that was put later is due earlier, the first one is the eldest. -/
theorem takeN_fifo (n : Nat) : ∀ R : List (γ × Int), R.Pairwise (fun a b => a.2 ≤ b.2) → takeN n R = ((R.take n).map Prod.fst, R.drop n) := by
  induction n with
  | zero => intro R _; simp [takeN]
  | succ n ih =>
    intro R hR
    cases R with
    | nil => rw [takeN_nil]; simp
    | cons x r =>
      have hk : eldI (x :: r) = 0 := by
        refine eldI_unique _ 0 (by simp) (fun j hj => ?_) (fun j hj => by omega)
        rw [dueOf_get _ 0 (by simp), dueOf_get _ j hj]
        cases j with
        | zero => exact Int.le_refl _
        | succ j => exact (List.pairwise_cons.1 hR).1 _ (List.getElem_mem _)
      rw [takeN_succ n _ x (by rw [hk]; rfl), hk]
      have := ih r (List.pairwise_cons.1 hR).2
      simp only [List.eraseIdx_cons_zero, this]
      simp
/-- All of them, from the eldest on: by their due times, those of one due time in the order in which they were put. -/
def byDue (R : List (γ × Int)) (ds : List Int) : List γ := ds.flatMap fun d => (R.filter fun e => decide (e.2 = d)).map Prod.fst
theorem filter_erase (R : List (γ × Int)) (d : Int) : ∀ k (hk : k < R.length), R[k].2 ≠ d → (R.eraseIdx k).filter (fun e => decide (e.2 = d)) = R.filter (fun e => decide (e.2 = d)) := by
  induction R with
  | nil => intro k hk; exact absurd hk (by simp)
  | cons x r ih =>
    intro k hk h
    cases k with
    | zero =>
      have h : x.2 ≠ d := h
      simp [h]
    | succ k =>
      have := ih k (by simpa using hk) h
      rw [List.eraseIdx_cons_succ, List.filter_cons, List.filter_cons, this]
theorem filter_first (R : List (γ × Int)) (d : Int) : ∀ k (hk : k < R.length), R[k].2 = d → (∀ j (hj : j < k), R[j].2 ≠ d) → R.filter (fun e => decide (e.2 = d)) = R[k] :: (R.eraseIdx k).filter (fun e => decide (e.2 = d)) := by
  induction R with
  | nil => intro k hk; exact absurd hk (by simp)
  | cons x r ih =>
    intro k hk h hb
    cases k with
    | zero =>
      have h : x.2 = d := h
      simp [h]
    | succ k =>
      have h0 : x.2 ≠ d := hb 0 (by omega)
      have := ih k (by simpa using hk) h (fun j hj => hb (j + 1) (by omega))
      rw [List.eraseIdx_cons_succ, List.filter_cons, List.filter_cons, this]
      simp [h0]
theorem byDue_step (R : List (γ × Int)) (k : Nat) (hk : k < R.length) (hmin : ∀ j (hj : j < R.length), R[k].2 ≤ R[j].2) (hb : ∀ j (hj : j < k), R[k].2 < R[j].2) : ∀ ds : List Int, ds.Pairwise (· < ·) → R[k].2 ∈ ds →
    byDue R ds = R[k].1 :: byDue (R.eraseIdx k) ds := by
  intro ds
  induction ds with
  | nil => intro _ h; exact absurd h (by simp)
  | cons d ds ih =>
    intro hs hm
    obtain ⟨hs1, hs2⟩ := List.pairwise_cons.1 hs
    by_cases hd : R[k].2 = d
    · have e1 := filter_first R d k hk hd (fun j hj => by have := hb j hj; omega)
      have e2 : ∀ ds' : List Int, (∀ x ∈ ds', R[k].2 ≠ x) → byDue (R.eraseIdx k) ds' = byDue R ds' := by
        intro ds'
        induction ds' with
        | nil => intro _; rfl
        | cons x ds' ih' =>
          intro hx
          have := ih' (fun y hy => hx y (by simp [hy]))
          unfold byDue at this ⊢
          rw [List.flatMap_cons, List.flatMap_cons, this, filter_erase R x k hk (hx x (by simp))]
      have e3 := e2 ds (fun x hx => by have := hs1 x hx; omega)
      unfold byDue at e3 ⊢
      rw [List.flatMap_cons, List.flatMap_cons, e1, e3]
      simp
    · have hm' : R[k].2 ∈ ds := by
        rcases List.mem_cons.1 hm with h | h
        · exact absurd h hd
        · exact h
      have hlt := hs1 _ hm'
      have e0 : R.filter (fun e => decide (e.2 = d)) = [] := by
        rw [List.filter_eq_nil_iff]
        intro e he
        obtain ⟨j, hj, rfl⟩ := List.getElem_of_mem he
        have := hmin j hj
        simp; omega
      have e1 := filter_erase R d k hk hd
      rw [e0] at e1
      have := ih hs2 hm'
      unfold byDue at this ⊢
      rw [List.flatMap_cons, List.flatMap_cons, e0, e1, this]
      rfl
theorem takeN_byDue (ds : List Int) (hs : ds.Pairwise (· < ·)) (n : Nat) : ∀ R : List (γ × Int), R.length ≤ n → (∀ e ∈ R, e.2 ∈ ds) → takeN n R = (byDue R ds, []) := by
  induction n with
  | zero =>
    intro R h _
    have : R = [] := List.eq_nil_of_length_eq_zero (by omega)
    subst this
    simp [takeN, byDue]
  | succ n ih =>
    intro R h hm
    by_cases h0 : 0 < R.length
    · obtain ⟨_, hk, h1, h2⟩ := eldI_some R h0
      have hx : R[eldI R]? = some R[eldI R] := List.getElem?_eq_getElem hk
      have hl : (R.eraseIdx (eldI R)).length = R.length - 1 := by rw [List.length_eraseIdx, if_pos hk]
      rw [takeN_succ n R _ hx, ih (R.eraseIdx (eldI R)) (by omega) (fun e he => hm e (List.mem_of_mem_eraseIdx he))]
      rw [byDue_step R (eldI R) hk (fun j hj => by have := h1 j hj; rwa [dueOf_get _ _ hk, dueOf_get _ _ hj] at this) (fun j hj => by have := h2 j hj; rwa [dueOf_get _ _ hk, dueOf_get _ _ (by omega)] at this) ds hs (hm _ (List.getElem_mem hk))]
    · have : R = [] := List.eq_nil_of_length_eq_zero (by omega)
      subst this
      rw [takeN_nil]
      simp [byDue]
end
end Go.Proofs.YtigamomoegpefaaDoor
/- A batcher's row: how it lies, and what its methods do. -/
namespace Go.Proofs.YtigamomoegpefaaDoor
open Go Go.RowKit Go.Lib

def heC (x : He) : List Value := [.int .i64 x.1, .int .i64 x.2.1, .int .i64 x.2.2.1, .int .u32 x.2.2.2]
def cellsH (l : List He) : List Value := l.flatMap heC
theorem cellsH_length (l : List He) : (cellsH l).length = l.length * 4 := by
  induction l with
  | nil => rfl
  | cons a r ih => simp only [cellsH, List.flatMap_cons, List.length_append, heC, List.length_cons, List.length_nil] at *; omega
theorem cellsH_at : ∀ (l : List He) (j : Nat), j < l.length → (cellsH l)[j * 4]? = some (.int .i64 (aH l j).1) ∧ (cellsH l)[j * 4 + 1]? = some (.int .i64 (aH l j).2.1) ∧
    (cellsH l)[j * 4 + 2]? = some (.int .i64 (aH l j).2.2.1) ∧ (cellsH l)[j * 4 + 3]? = some (.int .u32 (aH l j).2.2.2) := by
  intro l
  induction l with
  | nil => intro j hj; exact absurd hj (by simp)
  | cons a r ih =>
    intro j hj
    cases j with
    | zero => exact ⟨rfl, rfl, rfl, rfl⟩
    | succ j =>
      have := ih j (by simpa using hj)
      have e : (j + 1) * 4 = j * 4 + 1 + 1 + 1 + 1 := by omega
      rw [e]
      exact this
theorem cellsH_set (l : List He) : ∀ (k : Nat) (x : He), k < l.length → ((((cellsH l).set (k * 4) (.int .i64 x.1)).set (k * 4 + 1) (.int .i64 x.2.1)).set (k * 4 + 2) (.int .i64 x.2.2.1)).set (k * 4 + 3) (.int .u32 x.2.2.2) = cellsH (l.set k x) := by
  induction l with
  | nil => intro k x hk; exact absurd hk (by simp)
  | cons a r ih =>
    intro k x hk
    cases k with
    | zero => rfl
    | succ k =>
      have e : (k + 1) * 4 = k * 4 + 1 + 1 + 1 + 1 := by omega
      rw [e]
      show heC a ++ ((((cellsH r).set (k * 4) (.int .i64 x.1)).set (k * 4 + 1) (.int .i64 x.2.1)).set (k * 4 + 2) (.int .i64 x.2.2.1)).set (k * 4 + 3) (.int .u32 x.2.2.2) = heC a ++ cellsH (r.set k x)
      rw [ih k x (by simpa using hk)]
def OwnH (w : World) (ao : Option Addr) (cap : Nat) (l : List He) : Prop := Own w 66 4 ao l.length cap (cellsH l)
theorem OwnH.at' {w : World} {ao : Option Addr} {cap : Nat} {l : List He} (h : OwnH w ao cap l) {j : Nat} (hj : j < l.length) :
    ∃ g, ao = some ⟨g, 0, none⟩ ∧ (w.cell? ⟨g, j * 4, none⟩ = some (.int .i64 (aH l j).1) ∧ w.cell? ⟨g, j * 4 + 1, none⟩ = some (.int .i64 (aH l j).2.1) ∧ w.cell? ⟨g, j * 4 + 2, none⟩ = some (.int .i64 (aH l j).2.2.1) ∧ w.cell? ⟨g, j * 4 + 3, none⟩ = some (.int .u32 (aH l j).2.2.2)) ∧
      w.frozen? ⟨g, j * 4, none⟩ = false ∧ w.frozen? ⟨g, j * 4 + 1, none⟩ = false ∧ w.frozen? ⟨g, j * 4 + 2, none⟩ = false ∧ w.frozen? ⟨g, j * 4 + 3, none⟩ = false := by
  obtain ⟨h1, h2, h3, h4⟩ := cellsH_at l j hj
  obtain ⟨g, e1, e2, e3⟩ := Own.cell h h1
  obtain ⟨g1, a1, a2, a3⟩ := Own.cell h h2
  obtain ⟨g2, b1, b2, b3⟩ := Own.cell h h3
  obtain ⟨g3, c1, c2, c3⟩ := Own.cell h h4
  rw [e1] at a1 b1 c1
  cases a1
  cases b1
  cases c1
  exact ⟨g, e1, ⟨e2, a2, b2, c2⟩, e3, a3, b3, c3⟩
theorem OwnH.set {w : World} {b c : Nat} {l : List He} (h : OwnH w (some ⟨b, 0, none⟩) c l) (k : Nat) (x : He) (hk : k < l.length) :
    OwnH ((((w.setCell ⟨b, k * 4, none⟩ (.int .i64 x.1)).setCell ⟨b, k * 4 + 1, none⟩ (.int .i64 x.2.1)).setCell ⟨b, k * 4 + 2, none⟩ (.int .i64 x.2.2.1)).setCell ⟨b, k * 4 + 3, none⟩ (.int .u32 x.2.2.2)) (some ⟨b, 0, none⟩) c (l.set k x) := by
  have h1 := Own.set (j := k * 4) h (.int .i64 x.1)
  have h2 := Own.set (j := k * 4 + 1) h1 (.int .i64 x.2.1)
  have h3 := Own.set (j := k * 4 + 2) h2 (.int .i64 x.2.2.1)
  have h4 := Own.set (j := k * 4 + 3) h3 (.int .u32 x.2.2.2)
  rw [cellsH_set l k x hk] at h4
  unfold OwnH
  rw [List.length_set]
  exact h4
theorem OwnH.front {w : World} {ao : Option Addr} {cap : Nat} {l : List He} (h : OwnH w ao cap l) (k : Nat) (hk : k ≤ l.length) : OwnH w ao cap (l.take k) := by
  have := Own.front h k hk
  unfold OwnH
  rw [List.length_take, Nat.min_eq_left hk]
  have e : cellsH (l.take k) = (cellsH l).take (k * 4) := by
    clear this h
    revert k
    induction l with
    | nil => intro k _; simp [cellsH]
    | cons a r ih =>
      intro k hk
      cases k with
      | zero => simp [cellsH]
      | succ k =>
        have := ih k (by simpa using hk)
        have e : (k + 1) * 4 = 4 + k * 4 := by omega
        rw [e, List.take_succ_cons]
        show heC a ++ cellsH (r.take k) = (heC a ++ cellsH r).take (4 + k * 4)
        rw [this, List.take_append, List.take_of_length_le (show (heC a).length ≤ 4 + k * 4 by simp [heC]), show 4 + k * 4 - (heC a).length = k * 4 by simp [heC]]
  rw [e]
  exact this

/-- A batcher's block: five values, and the row. -/
structure RowW (w : World) (b : Nat) (v0 v1 v2 v3 v4 : Value) (ra : Option Addr) (rc : Nat) (hs : List He) : Prop where
  blk : w.heap[b]? = some (.cells #[v0, v1, v2, v3, v4, .slice ra hs.length rc] 62 (0, 0))
  own : OwnH w ra rc hs
  apart : b ∉ Proofs.YtigamomoegpefaaDoor.blk ra
theorem RowW.mod {S : List Nat} {w w' : World} {b : Nat} {v0 v1 v2 v3 v4 : Value} {ra : Option Addr} {rc : Nat} {hs : List He} (h : RowW w b v0 v1 v2 v3 v4 ra rc hs) (m : Mod S w w') (hb : b ∉ S) (hr : ∀ k, k ∈ Proofs.YtigamomoegpefaaDoor.blk ra → k ∉ S) : RowW w' b v0 v1 v2 v3 v4 ra rc hs :=
  ⟨m.get h.blk hb, Own.mod h.own m hr, h.apart⟩

set_option maxRecDepth 100000 in
theorem rowLen_any (ao : Option Addr) (n cap : Nat) (w : World) : Calls Tryd.prog 79 #[.slice ao n cap] w fun e w' => e = .returned (.int .i64 (n : Int)) ∧ w' = w := by
  go_enter Tryd.func79, Tryd.ntmps79
  go_wp2
  go_ret
  exact ⟨rfl, rfl⟩

set_option maxRecDepth 100000 in
set_option maxHeartbeats 2000000 in
theorem rowLess_any (ra : Option Addr) (rc : Nat) (hs : List He) (i k : Nat) (w : World) (h : OwnH w ra rc hs) (hi : i < hs.length) (hk : k < hs.length) (hm : hs.length ≤ 1000000) :
    Calls Tryd.prog 80 #[.slice ra hs.length rc, .int .i64 (i : Int), .int .i64 (k : Int)] w fun e w' => e = .returned (.bool (decide (ltH (aH hs i) (aH hs k)))) ∧ Mod [] w w' := by
  obtain ⟨g, rfl, ⟨p0, p1, p2, p3⟩, -⟩ := h.at' hi
  obtain ⟨g', hg', ⟨q0, q1, q2, q3⟩, -⟩ := h.at' hk
  cases hg'
  clear h
  obtain ⟨⟨d, o, x, y⟩, hx⟩ : ∃ z, aH hs i = z := ⟨_, rfl⟩
  obtain ⟨⟨d', o', x', y'⟩, hy⟩ : ∃ z, aH hs k = z := ⟨_, rfl⟩
  rw [hx] at p0 p1 p2 p3 ⊢
  rw [hy] at q0 q1 q2 q3 ⊢
  obtain ⟨n, hn⟩ : ∃ n, hs.length = n := ⟨_, rfl⟩
  have hm2 := hm
  clear hm
  rw [hn] at hi hk hm2 ⊢
  dsimp only at p0 p1 q0 q1
  clear hx hy p2 p3 q2 q3 hn
  have hl : ltH (d, o, x, y) (d', o', x', y') ↔ (d < d' ∨ d = d' ∧ o < o') := Iff.rfl
  have HL := Lib.hid hl
  clear hl
  by_cases h1 : d < d'
  · have D1 : decide (d < d') = true := decide_eq_true h1
    go_enter Tryd.func80, Tryd.ntmps80
    go_wp2_with fail
    go_quiet (fail)
    go_wp2_with fail
    go_ret
    exact ⟨by rw [decide_eq_true (HL.out.2 (.inl h1))]; rfl, Mod.drewN _ _ _⟩
  have D1 : decide (d < d') = false := decide_eq_false h1
  by_cases h2 : d = d'
  · have D2 : (d == d') = true := by simp [h2]
    by_cases h3 : o < o'
    · have D3 : decide (o < o') = true := decide_eq_true h3
      go_enter Tryd.func80, Tryd.ntmps80
      go_wp2_with fail
      go_quiet (fail)
      go_wp2_with fail
      go_ret
      exact ⟨by rw [decide_eq_true (HL.out.2 (.inr ⟨h2, h3⟩))]; rfl, Mod.drewN _ _ _⟩
    · have D3 : decide (o < o') = false := decide_eq_false h3
      go_enter Tryd.func80, Tryd.ntmps80
      go_wp2_with fail
      go_quiet (fail)
      go_wp2_with fail
      go_ret
      exact ⟨by rw [decide_eq_false (fun h => by have := HL.out.1 h; omega)]; rfl, Mod.drewN _ _ _⟩
  · have D2 : (d == d') = false := by simp [h2]
    go_enter Tryd.func80, Tryd.ntmps80
    go_wp2_with fail
    go_quiet (fail)
    go_wp2_with fail
    go_ret
    exact ⟨by rw [decide_eq_false (fun h => by have := HL.out.1 h; omega)]; rfl, Mod.drewN _ _ _⟩

theorem mod4 (w : World) (b i j k l : Nat) (v0 v1 v2 v3 : Value) : Mod [b] w ((((w.setCell ⟨b, i, none⟩ v0).setCell ⟨b, j, none⟩ v1).setCell ⟨b, k, none⟩ v2).setCell ⟨b, l, none⟩ v3) :=
  (((Mod.setCell _ _ _ (by simp)).trans' (Mod.setCell _ _ _ (by simp))).trans' (Mod.setCell _ _ _ (by simp))).trans' (Mod.setCell _ _ _ (by simp))
set_option maxRecDepth 100000 in
set_option maxHeartbeats 2000000 in
theorem rowSwap_any (ra : Option Addr) (rc : Nat) (hs : List He) (i k : Nat) (w : World) (h : OwnH w ra rc hs) (hi : i < hs.length) (hk : k < hs.length) (hm : hs.length ≤ 1000000) :
    Calls Tryd.prog 81 #[.slice ra hs.length rc, .int .i64 (i : Int), .int .i64 (k : Int)] w fun e w' => e = .returned (.tuple #[]) ∧ OwnH w' ra rc (swp hs i k) ∧ Mod (blk ra) w w' := by
  obtain ⟨g, rfl, p, pf⟩ := h.at' hi
  obtain ⟨g', hg', q, qf⟩ := h.at' hk
  cases hg'
  have H := Lib.hid h
  obtain ⟨n, hn⟩ : ∃ n, hs.length = n := ⟨_, rfl⟩
  have P := Lib.hid p
  have Q := Lib.hid q
  clear h p q pf qf
  have hm2 := hm
  clear hm
  rw [hn] at hi hk hm2 ⊢
  have HN := Lib.hid hn
  clear hn
  go_enter Tryd.func81, Tryd.ntmps81
  go_upto_region 0 with (fail)
  refine restu_start 13 [] [g] 16 #[false, false, false, false, false, false, false, false, false, false, false, false, false, false, false, false] rfl (by kernel_rfl) (by kernel_rfl) ?_
  intro w1 m1
  have H1 := Lib.hid (Own.mod H.out m1 (by simp))
  have P1 : Hid (∀ w', Mod [] w1 w' → _) := Lib.hid (fun w' (m : Mod [] w1 w') => (show w'.cell? ⟨g, i * 4, none⟩ = some (.int .i64 (aH hs i).1) ∧ w'.cell? ⟨g, i * 4 + 1, none⟩ = some (.int .i64 (aH hs i).2.1) ∧ w'.cell? ⟨g, i * 4 + 2, none⟩ = some (.int .i64 (aH hs i).2.2.1) ∧ w'.cell? ⟨g, i * 4 + 3, none⟩ = some (.int .u32 (aH hs i).2.2.2) from by
    obtain ⟨a, b, c, d⟩ := P.out
    have mm := m1.trans' m
    exact ⟨mm.cell a List.not_mem_nil, mm.cell b List.not_mem_nil, mm.cell c List.not_mem_nil, mm.cell d List.not_mem_nil⟩))
  have Q1 : Hid (∀ w', Mod [] w1 w' → _) := Lib.hid (fun w' (m : Mod [] w1 w') => (show w'.cell? ⟨g, k * 4, none⟩ = some (.int .i64 (aH hs k).1) ∧ w'.cell? ⟨g, k * 4 + 1, none⟩ = some (.int .i64 (aH hs k).2.1) ∧ w'.cell? ⟨g, k * 4 + 2, none⟩ = some (.int .i64 (aH hs k).2.2.1) ∧ w'.cell? ⟨g, k * 4 + 3, none⟩ = some (.int .u32 (aH hs k).2.2.2) from by
    obtain ⟨a, b, c, d⟩ := Q.out
    have mm := m1.trans' m
    exact ⟨mm.cell a List.not_mem_nil, mm.cell b List.not_mem_nil, mm.cell c List.not_mem_nil, mm.cell d List.not_mem_nil⟩))
  have M1 := Lib.hid m1
  clear m1 P Q H
  refine restu_got (i := 0) (v := ?v1) rfl (by kernel_rfl) (by kernel_rfl) (by kernel_rfl) (by rfl) (fun _ _ _ h => h) (by rfl) ?y1 ?r1
  case y1 => (intro w9q hSwq; clear hSwq; go_simp; with_reducible rfl)
  try simp only [Act.put, List.setIfInBounds_toArray, List.set_cons_zero, List.set_cons_succ]
  refine restu_got (i := 1) (v := ?v2) rfl (by kernel_rfl) (by kernel_rfl) (by kernel_rfl) (by rfl) (fun _ _ _ h => h) (by rfl) ?y2 ?r2
  case y2 => (intro w9q hSwq; clear hSwq; go_simp; with_reducible rfl)
  try simp only [Act.put, List.setIfInBounds_toArray, List.set_cons_zero, List.set_cons_succ]
  refine restu_got (i := 2) (v := ?v3) rfl (by kernel_rfl) (by kernel_rfl) (by kernel_rfl) (by rfl) (fun _ _ _ h => h) (by rfl) ?y3 ?r3
  case y3 => (intro w9q hSwq; clear hSwq; go_simp; with_reducible rfl)
  try simp only [Act.put, List.setIfInBounds_toArray, List.set_cons_zero, List.set_cons_succ]
  refine restu_got (i := 3) (v := ?v4) rfl (by kernel_rfl) (by kernel_rfl) (by kernel_rfl) (by rfl) (fun _ _ _ h => h) (by rfl) ?y4 ?r4
  case y4 => (intro w9q hSwq; clear hSwq; go_simp; with_reducible rfl)
  try simp only [Act.put, List.setIfInBounds_toArray, List.set_cons_zero, List.set_cons_succ]
  refine restu_got (i := 4) (v := ?v5) rfl (by kernel_rfl) (by kernel_rfl) (by kernel_rfl) (by rfl) (fun _ _ _ h => h) (by rfl) ?y5 ?r5
  case y5 => (intro w9q hSwq; clear hSwq; go_simp; with_reducible rfl)
  try simp only [Act.put, List.setIfInBounds_toArray, List.set_cons_zero, List.set_cons_succ]
  refine restu_got (i := 5) (v := ?v6) rfl (by kernel_rfl) (by kernel_rfl) (by kernel_rfl) (by rfl) (fun _ _ _ h => h) (by rfl) ?y6 ?r6
  case y6 => (intro w9q hSwq; clear hSwq; go_simp; with_reducible rfl)
  try simp only [Act.put, List.setIfInBounds_toArray, List.set_cons_zero, List.set_cons_succ]
  refine restu_got (i := 6) (v := ?v7) rfl (by kernel_rfl) (by kernel_rfl) (by kernel_rfl) (by rfl) (fun _ _ _ h => h) (by rfl) ?y7 ?r7
  case y7 => (intro w9q hSwq; clear hSwq; go_simp; with_reducible rfl)
  try simp only [Act.put, List.setIfInBounds_toArray, List.set_cons_zero, List.set_cons_succ]
  refine restu_early (i := 7) [12, 13, 14, 15] (v := ?v8) rfl (by kernel_rfl) (by kernel_rfl) (by kernel_rfl) (by rfl) (by kernel_rfl) (by rfl) (by kernel_rfl) (fun _ _ _ h => h) (by rfl) ?y8 ?r8
  case y8 => ((intro w9' hm9'; obtain ⟨hc0', hc1', hc2', hc3'⟩ := Q1.out w9' hm9'; clear hm9'; go_simp; with_reducible rfl))
  try simp only [Act.put, List.setIfInBounds_toArray, List.set_cons_zero, List.set_cons_succ]
  refine restu_got (i := 8) (v := ?v9) rfl (by kernel_rfl) (by kernel_rfl) (by kernel_rfl) (by rfl) (fun _ _ _ h => h) (by rfl) ?y9 ?r9
  case y9 => (intro w9q hSwq; clear hSwq; go_simp; with_reducible rfl)
  try simp only [Act.put, List.setIfInBounds_toArray, List.set_cons_zero, List.set_cons_succ]
  refine restu_got (i := 9) (v := ?v10) rfl (by kernel_rfl) (by kernel_rfl) (by kernel_rfl) (by rfl) (fun _ _ _ h => h) (by rfl) ?y10 ?r10
  case y10 => (intro w9q hSwq; clear hSwq; go_simp; with_reducible rfl)
  try simp only [Act.put, List.setIfInBounds_toArray, List.set_cons_zero, List.set_cons_succ]
  refine restu_got (i := 10) (v := ?v11) rfl (by kernel_rfl) (by kernel_rfl) (by kernel_rfl) (by rfl) (fun _ _ _ h => h) (by rfl) ?y11 ?r11
  case y11 => (intro w9q hSwq; clear hSwq; go_simp; with_reducible rfl)
  try simp only [Act.put, List.setIfInBounds_toArray, List.set_cons_zero, List.set_cons_succ]
  refine restu_early (i := 11) [12, 13, 14, 15] (v := ?v12) rfl (by kernel_rfl) (by kernel_rfl) (by kernel_rfl) (by rfl) (by kernel_rfl) (by rfl) (by kernel_rfl) (fun _ _ _ h => h) (by rfl) ?y12 ?r12
  case y12 => ((intro w9' hm9'; obtain ⟨hc0', hc1', hc2', hc3'⟩ := P1.out w9' hm9'; clear hm9'; go_simp; with_reducible rfl))
  try simp only [Act.put, List.setIfInBounds_toArray, List.set_cons_zero, List.set_cons_succ]
  refine restu_got (i := 12) (v := ?v13) rfl (by kernel_rfl) (by kernel_rfl) (by kernel_rfl) (by rfl) (fun _ _ _ h => h) (by rfl) ?y13 ?r13
  case y13 => (intro w9q hSwq; clear hSwq; go_simp; with_reducible rfl)
  try simp only [Act.put, List.setIfInBounds_toArray, List.set_cons_zero, List.set_cons_succ]
  have hi' : i < hs.length := by rw [HN.out]; exact hi
  have hk' : k < hs.length := by rw [HN.out]; exact hk
  have HI := Lib.hid (And.intro hi' hk')
  obtain ⟨g1, e1, ⟨p0, p1, p2, p3⟩, f0, f1, f2, f3⟩ := OwnH.at' H1.out hi'
  cases e1
  clear P1 Q1 hi' hk'
  refine restu_one (i := 13) (by kernel_rfl) rfl (by rfl) ?_
  go_wp2_with fail
  have H2 := OwnH.set H1.out i (aH hs k) HI.out.1
  have m2 := mod4 w1 g (i * 4) (i * 4 + 1) (i * 4 + 2) (i * 4 + 3) (.int .i64 (aH hs k).1) (.int .i64 (aH hs k).2.1) (.int .i64 (aH hs k).2.2.1) (.int .u32 (aH hs k).2.2.2)
  obtain ⟨w2, hw2⟩ : ∃ x, (((w1.setCell ⟨g, i * 4, none⟩ (.int .i64 (aH hs k).1)).setCell ⟨g, i * 4 + 1, none⟩ (.int .i64 (aH hs k).2.1)).setCell ⟨g, i * 4 + 2, none⟩ (.int .i64 (aH hs k).2.2.1)).setCell ⟨g, i * 4 + 3, none⟩ (.int .u32 (aH hs k).2.2.2) = x := ⟨_, rfl⟩
  rw [hw2] at H2 m2 ⊢
  refine backm_to (K1 := [g]) (by kernel_rfl) m2 (by simp) ?_
  have H2 := Lib.hid H2
  have M2 : Hid (Mod [g] w w2) := Lib.hid (M1.out.nil.trans' m2)
  clear m2 hw2 p0 p1 p2 p3 f0 f1 f2 f3 M1 H1
  refine rest_got (i := 14) (v := ?v14) rfl (by kernel_rfl) (by kernel_rfl) (by kernel_rfl) (fun _ _ _ h => h) (by rfl) ?y14 ?r14
  case y14 => (intro w9q hSwq; clear hSwq; go_simp; with_reducible rfl)
  try simp only [Act.put, List.setIfInBounds_toArray, List.set_cons_zero, List.set_cons_succ]
  obtain ⟨g1, e1, ⟨p0, p1, p2, p3⟩, f0, f1, f2, f3⟩ := OwnH.at' H2.out (show k < (hs.set i (aH hs k)).length by rw [List.length_set]; exact HI.out.2)
  cases e1
  refine rest_one (i := 15) (by kernel_rfl) rfl (by rfl) ?_
  go_wp2_with fail
  have H3 := OwnH.set H2.out k (aH hs i) (by rw [List.length_set]; exact HI.out.2)
  have m3 := mod4 w2 g (k * 4) (k * 4 + 1) (k * 4 + 2) (k * 4 + 3) (.int .i64 (aH hs i).1) (.int .i64 (aH hs i).2.1) (.int .i64 (aH hs i).2.2.1) (.int .u32 (aH hs i).2.2.2)
  obtain ⟨w3, hw3⟩ : ∃ x, (((w2.setCell ⟨g, k * 4, none⟩ (.int .i64 (aH hs i).1)).setCell ⟨g, k * 4 + 1, none⟩ (.int .i64 (aH hs i).2.1)).setCell ⟨g, k * 4 + 2, none⟩ (.int .i64 (aH hs i).2.2.1)).setCell ⟨g, k * 4 + 3, none⟩ (.int .u32 (aH hs i).2.2.2) = x := ⟨_, rfl⟩
  rw [hw3] at H3 m3 ⊢
  refine back_to (K1 := [g]) m3 (by simp) ?_
  have H3 : Hid (OwnH w3 (some ⟨g, 0, none⟩) rc (swp hs i k)) := Lib.hid H3
  have M3 : Hid (Mod [g] w w3) := Lib.hid (M2.out.trans' m3)
  clear m3 hw3 p0 p1 p2 p3 f0 f1 f2 f3 M2 H2
  refine rest_done (by kernel_rfl) ?_ _
  go_wp2_with fail
  go_end0
  exact ⟨rfl, H3.out, M3.out⟩
end Go.Proofs.YtigamomoegpefaaDoor
/- A batcher's row: how its methods are found behind an interface; what is pushed, what is popped. -/
namespace Go.Proofs.YtigamomoegpefaaDoor
open Go Go.RowKit Go.Lib

theorem meth_Push (w : World) (v : Value) : (method 245 72 v "Push").run Tryd.prog w = .ok (83, v) w := by kernel_rfl
theorem meth_Pop (w : World) (v : Value) : (method 245 72 v "Pop").run Tryd.prog w = .ok (82, v) w := by kernel_rfl
theorem ld (w : World) (b : Nat) (a : Option Addr) (n c : Nat) (h : w.cell? ⟨b, 5, none⟩ = some (.slice a n c)) : (loadVar 60 ⟨b, 5, none⟩).run Tryd.prog w = .ok (.slice a n c) w := by
  simp [loadVar, go_sem, h]
theorem meth_val (name : String) (f : Nat) (hi : (Tryd.prog.info? 72).map (fun i => (i.methods.find? (·.name == name)).map (fun m => (m.path.toList, m.func))) = some (some ([], some (f, false))))
    (w : World) (b : Nat) (a : Option Addr) (n c : Nat) (h : w.cell? ⟨b, 5, none⟩ = some (.slice a n c)) : (method (Tryd.prog.types.size + 100) 72 (.pointer (some ⟨b, 5, none⟩)) name).run Tryd.prog w = .ok (f, .slice a n c) w := by
  obtain ⟨i, hi, h2⟩ := Option.map_eq_some_iff.1 hi
  obtain ⟨m, hm, h3⟩ := Option.map_eq_some_iff.1 h2
  simp only [Prod.mk.injEq] at h3
  obtain ⟨h3, h4⟩ := h3
  have hp : Tryd.prog.underlying 72 = some (.pointer 60) := by kernel_rfl
  have hl := ld w b a n c h
  unfold method
  simp [typeInfo, hi, hm, h3, h4, follow, receiverAt, run_underlying hp, Place.get]
  have hk : ∀ s : String, (Builtin.ssaWrapNilChk_ #[72] 72 #[.pointer (some ⟨b, 5, none⟩), strVal "", strVal s]).run Tryd.prog w = .ok (.pointer (some ⟨b, 5, none⟩)) w := fun s => rfl
  split
  · simp [hk, asAddr, hl]
  · simp [asAddr, hl]
theorem methN : Tryd.prog.types.size + 100 = 245 := by kernel_rfl
theorem meth_Len (w : World) (b : Nat) (a : Option Addr) (n c : Nat) (h : w.cell? ⟨b, 5, none⟩ = some (.slice a n c)) : (method 245 72 (.pointer (some ⟨b, 5, none⟩)) "Len").run Tryd.prog w = .ok (79, .slice a n c) w := methN ▸ meth_val "Len" _ (by kernel_rfl) w b a n c h
theorem meth_Less (w : World) (b : Nat) (a : Option Addr) (n c : Nat) (h : w.cell? ⟨b, 5, none⟩ = some (.slice a n c)) : (method 245 72 (.pointer (some ⟨b, 5, none⟩)) "Less").run Tryd.prog w = .ok (80, .slice a n c) w := methN ▸ meth_val "Less" _ (by kernel_rfl) w b a n c h
theorem meth_Swap (w : World) (b : Nat) (a : Option Addr) (n c : Nat) (h : w.cell? ⟨b, 5, none⟩ = some (.slice a n c)) : (method 245 72 (.pointer (some ⟨b, 5, none⟩)) "Swap").run Tryd.prog w = .ok (81, .slice a n c) w := methN ▸ meth_val "Swap" _ (by kernel_rfl) w b a n c h

theorem infoWait : (Tryd.prog.info? 66).map (fun i => (i.zero, i.size, i.bytes)) = some (some (.agg #[.int .i64 0, .int .i64 0, .int .i64 0, .int .u32 0]), 4, 32) := by kernel_rfl
theorem wpl_appH {w : World} {ops : Array Oper} {rest : List Oper} {a : Act} {Q : Exit → Act → World → Prop} {dst : Option Tmp} {ty : TypeId} {pos : String} {after : Array Edge} (s x : Operand)
    (ao : Option Addr) (n cap : Nat) (xs : List He) (hs : a.eval s = .slice ao n cap) (hn : xs.length = n) (hown : OwnH w ao cap xs)
    (g : Nat) (y : He) (hx : a.eval x = .slice (some ⟨g, 0, none⟩) 1 1) (hsh : Shows w (some ⟨g, 0, none⟩) (cellsH [y])) (hb : n + 1 ≤ 1000000)
    (h : ∀ ao' cap' w', OwnH w' ao' cap' (xs ++ [y]) → Mod (blk ao) w w' → SameOrNew w w' ao ao' → wpList Tryd.prog ops Q rest (a.put dst (.slice ao' (n + 1) cap')) w') :
    wpList Tryd.prog ops Q (⟨dst, .call { callee := .builtin .append, args := #[s, x], argTypes := #[60, 60] }, ty, pos, after, none⟩ :: rest) a w := by
  obtain ⟨i0, hi, hz0, hz1, hz2⟩ := info_parts infoWait
  subst hn
  refine wpl_append w rfl s x 60 rfl 66 i0 _ 4 32 (show Tryd.prog.underlying 60 = some (.slice 66) by kernel_rfl) hi hz0 hz1 hz2 rfl (by decide) ao _ cap _ hs hown (some ⟨g, 0, none⟩) 1 1 (cellsH [y]) hx (cellsH_length [y]) hsh ?_ (by unfold maxLen; omega) (by omega) ?_
  · intro u hu
    obtain ⟨x, hx, hu⟩ := List.mem_flatMap.1 hu
    simp only [heC, List.mem_cons, List.not_mem_nil, or_false] at hu
    rcases hu with rfl | rfl | rfl | rfl <;> rfl
  · intro ao' cap' w' h1 h2 h3
    refine h ao' cap' w' ?_ h2 h3
    unfold OwnH cellsH
    rw [List.length_append, List.flatMap_append]
    exact h1
theorem showsH {w : World} {g : Nat} {x : He} {t : TypeId} {z : Nat × Nat} (h : w.heap[g]? = some (.cells #[.int .i64 x.1, .int .i64 x.2.1, .int .i64 x.2.2.1, .int .u32 x.2.2.2] t z)) : Shows w (some ⟨g, 0, none⟩) (cellsH [x]) := by
  intro j u hj
  refine ⟨_, rfl, ?_⟩
  rw [Addr.add_lit, cell_of_block h, Nat.zero_add]
  have : cellsH [x] = heC x := by simp [cellsH]
  rw [this] at hj
  rw [← hj]
  simp [heC]

theorem assert_wait (w : World) (d o i gn : Int) : (Instr.typeAssert (.iface 66 (.agg #[.int .i64 d, .int .i64 o, .int .i64 i, .int .u32 gn])) 20 66 false).run Tryd.prog w = .ok (.agg #[.int .i64 d, .int .i64 o, .int .i64 i, .int .u32 gn]) w := by kernel_rfl
set_option maxRecDepth 100000 in
set_option maxHeartbeats 2000000 in
theorem rowPush_any (b : Nat) (v0 v1 v2 v3 v4 : Value) (ra : Option Addr) (rc : Nat) (hs : List He) (x : He) (w : World) (h : RowW w b v0 v1 v2 v3 v4 ra rc hs) (hm : hs.length ≤ 100000) :
    Calls Tryd.prog 83 #[.pointer (some ⟨b, 5, none⟩), .iface 66 (.agg #[.int .i64 x.1, .int .i64 x.2.1, .int .i64 x.2.2.1, .int .u32 x.2.2.2])] w fun e w' => e = .returned (.tuple #[]) ∧
      ∃ ra' rc', RowW w' b v0 v1 v2 v3 v4 ra' rc' (hs ++ [x]) ∧ Mod (b :: blk ra) w w' ∧ SameOrNew w w' ra ra' := by
  obtain ⟨d, o, i, gn⟩ := x
  have c5 := cell_of_block (i := 5) h.blk
  have H := Lib.hid h
  obtain ⟨n, hn⟩ : ∃ n, hs.length = n := ⟨_, rfl⟩
  have HN := Lib.hid hn
  rw [hn] at hm c5
  clear h hn
  go_enter Tryd.func83, Tryd.ntmps83
  go_upto_region 0 with (fail)
  refine restu_start 9 (blk ra) (b :: blk ra) 10 #[false, false, false, false, false, false, false, false, false, false] rfl (by kernel_rfl) (by kernel_rfl) ?_
  intro w1 m1
  have hba : b ∉ blk ra := H.out.apart
  have H1 := Lib.hid (H.out.mod m1 List.not_mem_nil (fun _ _ => List.not_mem_nil))
  have c5 := m1.cell c5 List.not_mem_nil
  have M1 := Lib.hid m1
  clear m1 H
  have ta := fun w => assert_wait w d o i gn
  refine restu_got (i := 0) (v := ?v1) rfl (by kernel_rfl) (by kernel_rfl) (by kernel_rfl) (by rfl) (fun _ _ _ h => h) (by rfl) ?y1 ?r1
  case y1 => (intro w9q hSwq; clear hSwq; go_simp; with_reducible rfl)
  try simp only [Act.put, List.setIfInBounds_toArray, List.set_cons_zero, List.set_cons_succ]
  refine restu_got (i := 1) (v := ?v2) rfl (by kernel_rfl) (by kernel_rfl) (by kernel_rfl) (by rfl) (fun _ _ _ h => h) (by rfl) ?y2 ?r2
  case y2 => (intro w9q hSwq; clear hSwq; go_simp; with_reducible rfl)
  try simp only [Act.put, List.setIfInBounds_toArray, List.set_cons_zero, List.set_cons_succ]
  refine restu_got (i := 2) (v := ?v3) rfl (by kernel_rfl) (by kernel_rfl) (by kernel_rfl) (by rfl) (fun _ _ _ h => h) (by rfl) ?y3 ?r3
  case y3 => (intro w9q hSwq; clear hSwq; go_simp; with_reducible rfl)
  try simp only [Act.put, List.setIfInBounds_toArray, List.set_cons_zero, List.set_cons_succ]
  refine restu_early (i := 3) [7, 8, 9] (v := ?v4) rfl (by kernel_rfl) (by kernel_rfl) (by kernel_rfl) (by rfl) (by kernel_rfl) (by rfl) (by kernel_rfl) (fun _ _ _ h => h) (by rfl) ?y4 ?r4
  case y4 => ((intro w9' hm9'; have hc9' := Mod.cell hm9' c5 (by first | exact List.not_mem_nil | assumption | (simp; done) | (simp; omega)); clear hm9'; go_simp; with_reducible rfl))
  try simp only [Act.put, List.setIfInBounds_toArray, List.set_cons_zero, List.set_cons_succ]
  refine restu_got (i := 4) (v := ?v5) rfl (by kernel_rfl) (by kernel_rfl) (by kernel_rfl) (by rfl) (fun _ _ _ h => h) (by rfl) ?y5 ?r5
  case y5 => (intro w9q hSwq; clear hSwq; go_simp; with_reducible rfl)
  try simp only [Act.put, List.setIfInBounds_toArray, List.set_cons_zero, List.set_cons_succ]
  refine restu_one (i := 5) (by kernel_rfl) rfl (by rfl) ?_
  go_wp2_with fail
  clear ta
  refine backu_to (K' := blk ra) (K2' := b :: blk ra) (Mod.refl _ _) (fun _ h => List.mem_cons_of_mem _ h) (fun _ h _ => h) (fun _ h _ => h) ?_
  refine restu_one (i := 6) (by kernel_rfl) rfl (by rfl) ?_
  go_wp2_with fail
  have hb := heap_alloc_new w1 (.cells #[.int .i64 d, .int .i64 o, .int .i64 i, .int .u32 gn] 66)
  have m2 := Mod.alloc [] w1 (.cells #[.int .i64 d, .int .i64 o, .int .i64 i, .int .u32 gn] 66)
  have hlt1 : b < w1.heap.size := lt_of_block H1.out.blk
  have hra1 := Own.lt H1.out.own
  obtain ⟨w2, hw2⟩ : ∃ x, w1.alloc (.cells #[.int .i64 d, .int .i64 o, .int .i64 i, .int .u32 gn] 66) = x := ⟨_, rfl⟩
  obtain ⟨z, hz⟩ : ∃ x, w1.heap.size = x := ⟨_, rfl⟩
  rw [hw2] at hb m2 ⊢
  rw [hz] at hb ⊢
  have H2 := Lib.hid (H1.out.mod m2 List.not_mem_nil (fun _ _ => List.not_mem_nil))
  have SH := Lib.hid (showsH (x := (d, o, i, gn)) hb)
  refine backu_to (K' := blk ra) (K2' := b :: blk ra) m2.nil (fun _ h => List.mem_cons_of_mem _ h) (fun _ h _ => h) (fun _ h _ => h) ?_
  have M2 := Lib.hid (M1.out.trans' m2)
  have c5 := m2.cell c5 List.not_mem_nil
  clear hb m2 hw2 hz H1 M1
  refine restu_one (i := 7) (by kernel_rfl) rfl (by rfl) ?_
  go_wp2_with (first
    | (at_builtin; refine wpl_appH (dst := some 11) _ _ ra n rc hs rfl HN.out H2.out.own z (d, o, i, gn) rfl SH.out (by omega) ?_; intro ra3 rc3 w3 o3 m3 n3; have O3 := Lib.hid o3; have M3 := Lib.hid m3; have N3 := Lib.hid n3; clear o3 m3 n3)
    | fail)
  refine backu_to (K' := []) (K2' := [b]) M3.out (fun _ h => List.mem_cons_of_mem _ h) (by simp) (by simp) ?_
  have hb3 : w3.heap[b]? = some (.cells #[v0, v1, v2, v3, v4, .slice ra hs.length rc] 62 (0, 0)) := M3.out.get H2.out.blk hba
  have c5 := cell_of_block (i := 5) hb3
  have f5 := free_of_block (i := 5) hb3
  have HB3 := Lib.hid hb3
  clear hb3
  refine restu_got (i := 8) (v := ?v6) rfl (by kernel_rfl) (by kernel_rfl) (by kernel_rfl) (by rfl) (fun _ _ _ h => h) (by rfl) ?y6 ?r6
  case y6 => (intro w9q hSwq; clear hSwq; go_simp; with_reducible rfl)
  try simp only [Act.put, List.setIfInBounds_toArray, List.set_cons_zero, List.set_cons_succ]
  refine restu_one (i := 9) (by kernel_rfl) rfl (by rfl) ?_
  go_wp2_with fail
  have hb4 := heap_setCell_same (i := 5) HB3.out (.slice ra3 (n + 1) rc3)
  have m4 : Mod [b] w3 (w3.setCell ⟨b, 5, none⟩ (.slice ra3 (n + 1) rc3)) := Mod.setCell _ _ _ (by simp)
  obtain ⟨w4, hw4⟩ : ∃ x, w3.setCell ⟨b, 5, none⟩ (.slice ra3 (n + 1) rc3) = x := ⟨_, rfl⟩
  rw [hw4] at hb4 m4 ⊢
  refine backm_to (K1 := []) (by kernel_rfl) m4 (by simp) ?_
  refine rest_done (by kernel_rfl) ?_ _
  go_wp2_with fail
  go_end0
  have hb3 : b ∉ blk ra3 := fun hk => by
    rcases N3.out.blk b hk with h | h
    · exact hba h
    · have := lt_of_block H2.out.blk; omega
  have mb : Mod (b :: blk ra) w w4 := by
    refine (M2.out.nil.trans' (M3.out.weaken (fun _ h => List.mem_cons_of_mem _ h))).trans m4 (fun k hk _ => by simp at hk; simp [hk])
  refine ⟨rfl, ra3, rc3, ⟨?_, Own.mod O3.out m4 (fun k hk h => by simp at h; subst h; exact hb3 hk), hb3⟩, mb, ?_⟩
  · rw [hb4, List.length_append, HN.out]; rfl
  · rcases N3.out with h | ⟨g, h1, h2, h3⟩
    · exact .inl h
    · exact .inr ⟨g, h1, Nat.le_trans M2.out.size h2, Nat.lt_of_lt_of_le h3 m4.size⟩

set_option maxRecDepth 100000 in
set_option maxHeartbeats 2000000 in
theorem rowPop_any (b : Nat) (v0 v1 v2 v3 v4 : Value) (ra : Option Addr) (rc : Nat) (hs : List He) (n : Nat) (w : World) (h : RowW w b v0 v1 v2 v3 v4 ra rc hs) (hn : hs.length = n + 1) (hm : hs.length ≤ 100000) :
    Calls Tryd.prog 82 #[.pointer (some ⟨b, 5, none⟩)] w fun e w' =>
      e = .returned (.iface 66 (.agg #[.int .i64 (aH hs n).1, .int .i64 (aH hs n).2.1, .int .i64 (aH hs n).2.2.1, .int .u32 (aH hs n).2.2.2])) ∧
      RowW w' b v0 v1 v2 v3 v4 ra rc (hs.take n) ∧ Mod [b] w w' := by
  obtain ⟨g, rfl, p, -⟩ := h.own.at' (show n < hs.length by omega)
  have P := Lib.hid p
  obtain ⟨⟨d, o, i, gn⟩, hx⟩ : ∃ z, aH hs n = z := ⟨_, rfl⟩
  rw [hx] at P ⊢
  dsimp only at P ⊢
  have c5 := cell_of_block (i := 5) h.blk
  have hrc : n + 1 ≤ rc := by have := Own.le h.own; omega
  have hcm : rc ≤ 9223372036854775807 := by have := Own.cap_le h.own; unfold maxLen at this; omega
  have H := Lib.hid h
  rw [hn] at hm c5
  have HN := Lib.hid hn
  clear h hn p hx
  go_enter Tryd.func82, Tryd.ntmps82
  go_upto_region 1 with (fail)
  refine rest_start [] 12 #[false, false, false, false, false, false, false, false, false, false, false, false] rfl (by kernel_rfl) (by kernel_rfl) ?_
  intro w1 m1
  have H1 := Lib.hid (H.out.mod m1 List.not_mem_nil (fun _ _ => List.not_mem_nil))
  have c5 := m1.cell c5 List.not_mem_nil
  have P1 : Hid (∀ w', Mod [] w1 w' → _) := Lib.hid (fun w' (m : Mod [] w1 w') => (show w'.cell? ⟨g, n * 4, none⟩ = some (.int .i64 d) ∧ w'.cell? ⟨g, n * 4 + 1, none⟩ = some (.int .i64 o) ∧ w'.cell? ⟨g, n * 4 + 2, none⟩ = some (.int .i64 i) ∧ w'.cell? ⟨g, n * 4 + 3, none⟩ = some (.int .u32 gn) from by
    obtain ⟨a, b, c, d⟩ := P.out
    have mm := m1.trans' m
    exact ⟨mm.cell a List.not_mem_nil, mm.cell b List.not_mem_nil, mm.cell c List.not_mem_nil, mm.cell d List.not_mem_nil⟩))
  have M1 := Lib.hid m1
  clear m1 H P
  have hi0 : (0 : Int) ≤ (n : Int) := by omega
  have hwr : IntKind.i64.wrap (n : Int) = (n : Int) := IntWalk.i64_in _ (by omega)
  have hlt : (n : Int) < (n : Int) + 1 := by omega
  refine rest_got (i := 0) (v := ?v7) rfl (by kernel_rfl) (by kernel_rfl) (by kernel_rfl) (fun _ _ _ h => h) (by rfl) ?y7 ?r7
  case y7 => (intro w9q hSwq; clear hSwq; go_simp; with_reducible rfl)
  try simp only [Act.put, List.setIfInBounds_toArray, List.set_cons_zero, List.set_cons_succ]
  refine rest_got (i := 1) (v := ?v8) rfl (by kernel_rfl) (by kernel_rfl) (by kernel_rfl) (fun _ _ _ h => h) (by rfl) ?y8 ?r8
  case y8 => (intro w9q hSwq; clear hSwq; go_simp; with_reducible rfl)
  try simp only [Act.put, List.setIfInBounds_toArray, List.set_cons_zero, List.set_cons_succ]
  refine rest_got (i := 2) (v := ?v9) rfl (by kernel_rfl) (by kernel_rfl) (by kernel_rfl) (fun _ _ _ h => h) (by rfl) ?y9 ?r9
  case y9 => ((intro w9' hm9'; have hc9' := Mod.cell hm9' c5 (by first | exact List.not_mem_nil | assumption | (simp; done) | (simp; omega)); clear hm9'; go_simp; with_reducible rfl))
  try simp only [Act.put, List.setIfInBounds_toArray, List.set_cons_zero, List.set_cons_succ]
  refine rest_got (i := 3) (v := ?v10) rfl (by kernel_rfl) (by kernel_rfl) (by kernel_rfl) (fun _ _ _ h => h) (by rfl) ?y10 ?r10
  case y10 => (intro w9q hSwq; clear hSwq; go_simp; with_reducible rfl)
  try simp only [Act.put, List.setIfInBounds_toArray, List.set_cons_zero, List.set_cons_succ]
  refine rest_got (i := 4) (v := ?v11) rfl (by kernel_rfl) (by kernel_rfl) (by kernel_rfl) (fun _ _ _ h => h) (by rfl) ?y11 ?r11
  case y11 => (intro w9q hSwq; clear hSwq; go_simp; with_reducible rfl)
  try simp only [Act.put, List.setIfInBounds_toArray, List.set_cons_zero, List.set_cons_succ]
  refine rest_got (i := 5) (v := ?v12) rfl (by kernel_rfl) (by kernel_rfl) (by kernel_rfl) (fun _ _ _ h => h) (by rfl) ?y12 ?r12
  case y12 => ((intro w9' hm9'; have hc9' := Mod.cell hm9' c5 (by first | exact List.not_mem_nil | assumption | (simp; done) | (simp; omega)); clear hm9'; go_simp; with_reducible rfl))
  try simp only [Act.put, List.setIfInBounds_toArray, List.set_cons_zero, List.set_cons_succ]
  refine rest_got (i := 6) (v := ?v13) rfl (by kernel_rfl) (by kernel_rfl) (by kernel_rfl) (fun _ _ _ h => h) (by rfl) ?y13 ?r13
  case y13 => (intro w9q hSwq; clear hSwq; go_simp; with_reducible rfl)
  try simp only [Act.put, List.setIfInBounds_toArray, List.set_cons_zero, List.set_cons_succ]
  refine rest_got (i := 7) (v := ?v14) rfl (by kernel_rfl) (by kernel_rfl) (by kernel_rfl) (fun _ _ _ h => h) (by rfl) ?y14 ?r14
  case y14 => (intro w9q hSwq; clear hSwq; go_simp; with_reducible rfl)
  try simp only [Act.put, List.setIfInBounds_toArray, List.set_cons_zero, List.set_cons_succ]
  refine rest_got (i := 8) (v := ?v15) rfl (by kernel_rfl) (by kernel_rfl) (by kernel_rfl) (fun _ _ _ h => h) (by rfl) ?y15 ?r15
  case y15 => (intro w9q hSwq; clear hSwq; go_simp; with_reducible rfl)
  try simp only [Act.put, List.setIfInBounds_toArray, List.set_cons_zero, List.set_cons_succ]
  refine rest_got (i := 9) (v := ?v16) rfl (by kernel_rfl) (by kernel_rfl) (by kernel_rfl) (fun _ _ _ h => h) (by rfl) ?y16 ?r16
  case y16 => ((intro w9' hm9'; obtain ⟨hc0', hc1', hc2', hc3'⟩ := P1.out w9' hm9'; clear hm9'; go_simp; with_reducible rfl))
  try simp only [Act.put, List.setIfInBounds_toArray, List.set_cons_zero, List.set_cons_succ]
  refine rest_one (i := 10) (by kernel_rfl) rfl (by rfl) ?_
  go_wp2_with fail
  have hb := heap_alloc_new w1 (.cells #[.int .i64 0, .int .i64 0, .int .i64 0, .int .u32 0] 66)
  have m2 := Mod.alloc [] w1 (.cells #[.int .i64 0, .int .i64 0, .int .i64 0, .int .u32 0] 66)
  obtain ⟨w2, hw2⟩ : ∃ x, w1.alloc (.cells #[.int .i64 0, .int .i64 0, .int .i64 0, .int .u32 0] 66) = x := ⟨_, rfl⟩
  have hz0 : w.heap.size ≤ w1.heap.size := M1.out.size
  obtain ⟨z, hz⟩ : ∃ x, w1.heap.size = x := ⟨_, rfl⟩
  have hbz : b < z := by rw [← hz]; exact lt_of_block H1.out.blk
  have hgz : g < z := by rw [← hz]; exact Own.lt H1.out.own g (by simp [blk])
  rw [hw2] at hb m2 ⊢
  refine back_to (K1 := [z]) m2 (fun k hk hl => by simp at hk; omega) ?_
  rw [hz] at hb hz0 ⊢
  have H2 := Lib.hid (H1.out.mod m2 List.not_mem_nil (fun _ _ => List.not_mem_nil))
  have M2 := Lib.hid (M1.out.trans' m2)
  clear m2 hw2 hz M1 H1 P1
  have z0 := cell_of_block (i := 0) hb
  have z1 := cell_of_block (i := 1) hb
  have z2 := cell_of_block (i := 2) hb
  have z3 := cell_of_block (i := 3) hb
  have y0 := free_of_block (i := 0) hb
  have y1 := free_of_block (i := 1) hb
  have y2 := free_of_block (i := 2) hb
  have y3 := free_of_block (i := 3) hb
  have HB := Lib.hid hb
  clear hb
  
  refine rest_one (i := 11) (by kernel_rfl) rfl (by rfl) ?_
  go_wp2_with fail
  have hb3 := heap_setCell_same (i := 3) (heap_setCell_same (i := 2) (heap_setCell_same (i := 1) (heap_setCell_same (i := 0) HB.out (.int .i64 d)) (.int .i64 o)) (.int .i64 i)) (.int .u32 gn)
  have m3 := mod4 w2 z 0 1 2 3 (.int .i64 d) (.int .i64 o) (.int .i64 i) (.int .u32 gn)
  obtain ⟨w3, hw3⟩ : ∃ x, (((w2.setCell ⟨z, 0, none⟩ (.int .i64 d)).setCell ⟨z, 1, none⟩ (.int .i64 o)).setCell ⟨z, 2, none⟩ (.int .i64 i)).setCell ⟨z, 3, none⟩ (.int .u32 gn) = x := ⟨_, rfl⟩
  rw [hw3] at hb3 m3 ⊢
  refine back_to (K1 := []) m3 (by simp) ?_
  have HB3 : Hid (w3.heap[z]? = some (.cells #[.int .i64 d, .int .i64 o, .int .i64 i, .int .u32 gn] 66 (0, 0))) := Lib.hid hb3
  have H3 := Lib.hid (H2.out.mod m3 (by simp; omega) (fun k hk => by simp [blk] at hk ⊢; omega))
  have M3 : Hid (Mod [] w w3) := Lib.hid (M2.out.trans m3 (fun k hk hl => by simp at hk; omega))
  clear hb3 m3 hw3 z0 z1 z2 z3 y0 y1 y2 y3 HB H2 M2 c5
  refine rest_done (by kernel_rfl) ?_ _
  go_upto_region 2 with (fail)
  have c5 := cell_of_block (i := 5) H3.out.blk
  rw [HN.out] at c5
  refine restu_start 11 [] [b] 12 #[false, false, false, false, false, false, false, false, false, false, false, false] rfl (by kernel_rfl) (by kernel_rfl) ?_
  intro w4 m4
  have c5 := m4.cell c5 List.not_mem_nil
  have H4 := Lib.hid (H3.out.mod m4 List.not_mem_nil (fun _ _ => List.not_mem_nil))
  have HB4 := Lib.hid (m4.get HB3.out List.not_mem_nil)
  have M4 := Lib.hid (M3.out.trans' m4)
  clear m4 H3 HB3 M3
  have hsl : (0 : Int) ≤ (n : Int) ∧ (n : Int) ≤ (rc : Int) := by omega
  refine restu_got (i := 0) (v := ?v17) rfl (by kernel_rfl) (by kernel_rfl) (by kernel_rfl) (by rfl) (fun _ _ _ h => h) (by rfl) ?y17 ?r17
  case y17 => (intro w9q hSwq; clear hSwq; go_simp; with_reducible rfl)
  try simp only [Act.put, List.setIfInBounds_toArray, List.set_cons_zero, List.set_cons_succ]
  refine restu_got (i := 1) (v := ?v18) rfl (by kernel_rfl) (by kernel_rfl) (by kernel_rfl) (by rfl) (fun _ _ _ h => h) (by rfl) ?y18 ?r18
  case y18 => (intro w9q hSwq; clear hSwq; go_simp; with_reducible rfl)
  try simp only [Act.put, List.setIfInBounds_toArray, List.set_cons_zero, List.set_cons_succ]
  refine restu_got (i := 2) (v := ?v19) rfl (by kernel_rfl) (by kernel_rfl) (by kernel_rfl) (by rfl) (fun _ _ _ h => h) (by rfl) ?y19 ?r19
  case y19 => (intro w9q hSwq; clear hSwq; go_simp; with_reducible rfl)
  try simp only [Act.put, List.setIfInBounds_toArray, List.set_cons_zero, List.set_cons_succ]
  refine restu_early (i := 3) [9, 10, 11] (v := ?v20) rfl (by kernel_rfl) (by kernel_rfl) (by kernel_rfl) (by rfl) (by kernel_rfl) (by rfl) (by kernel_rfl) (fun _ _ _ h => h) (by rfl) ?y20 ?r20
  case y20 => ((intro w9' hm9'; have hc9' := Mod.cell hm9' c5 (by first | exact List.not_mem_nil | assumption | (simp; done) | (simp; omega)); clear hm9'; go_simp; with_reducible rfl))
  try simp only [Act.put, List.setIfInBounds_toArray, List.set_cons_zero, List.set_cons_succ]
  refine restu_got (i := 4) (v := ?v21) rfl (by kernel_rfl) (by kernel_rfl) (by kernel_rfl) (by rfl) (fun _ _ _ h => h) (by rfl) ?y21 ?r21
  case y21 => (intro w9q hSwq; clear hSwq; go_simp; with_reducible rfl)
  try simp only [Act.put, List.setIfInBounds_toArray, List.set_cons_zero, List.set_cons_succ]
  refine restu_got (i := 5) (v := ?v22) rfl (by kernel_rfl) (by kernel_rfl) (by kernel_rfl) (by rfl) (fun _ _ _ h => h) (by rfl) ?y22 ?r22
  case y22 => (intro w9q hSwq; clear hSwq; go_simp; with_reducible rfl)
  try simp only [Act.put, List.setIfInBounds_toArray, List.set_cons_zero, List.set_cons_succ]
  refine restu_early (i := 6) [7, 8, 9, 10, 11] (v := ?v23) rfl (by kernel_rfl) (by kernel_rfl) (by kernel_rfl) (by rfl) (by kernel_rfl) (by rfl) (by kernel_rfl) (fun _ _ _ h => h) (by rfl) ?y23 ?r23
  case y23 => ((intro w9' hm9'; have hc9' := Mod.cell hm9' c5 (by first | exact List.not_mem_nil | assumption | (simp; done) | (simp; omega)); clear hm9'; go_simp; with_reducible rfl))
  try simp only [Act.put, List.setIfInBounds_toArray, List.set_cons_zero, List.set_cons_succ]
  refine restu_got (i := 7) (v := ?v24) rfl (by kernel_rfl) (by kernel_rfl) (by kernel_rfl) (by rfl) (fun _ _ _ h => h) (by rfl) ?y24 ?r24
  case y24 => (intro w9q hSwq; clear hSwq; go_simp; with_reducible rfl)
  try simp only [Act.put, List.setIfInBounds_toArray, List.set_cons_zero, List.set_cons_succ]
  refine restu_got (i := 8) (v := ?v25) rfl (by kernel_rfl) (by kernel_rfl) (by kernel_rfl) (by rfl) (fun _ _ _ h => h) (by rfl) ?y25 ?r25
  case y25 => (intro w9q hSwq; clear hSwq; go_simp; with_reducible rfl)
  try simp only [Act.put, List.setIfInBounds_toArray, List.set_cons_zero, List.set_cons_succ]
  refine restu_got (i := 9) (v := ?v26) rfl (by kernel_rfl) (by kernel_rfl) (by kernel_rfl) (by rfl) (fun _ _ _ h => h) (by rfl) ?y26 ?r26
  case y26 => (intro w9q hSwq; clear hSwq; go_simp; with_reducible rfl)
  try simp only [Act.put, List.setIfInBounds_toArray, List.set_cons_zero, List.set_cons_succ]
  refine restu_got (i := 10) (v := ?v27) rfl (by kernel_rfl) (by kernel_rfl) (by kernel_rfl) (by rfl) (fun _ _ _ h => h) (by rfl) ?y27 ?r27
  case y27 => (intro w9q hSwq; clear hSwq; go_simp; with_reducible rfl)
  try simp only [Act.put, List.setIfInBounds_toArray, List.set_cons_zero, List.set_cons_succ]
  have f5 := free_of_block (i := 5) H4.out.blk
  refine restu_one (i := 11) (by kernel_rfl) rfl (by rfl) ?_
  go_wp2_with fail
  have hb5 := heap_setCell_same (i := 5) H4.out.blk (.slice (some ⟨g, 0, none⟩) n rc)
  have m5 : Mod [b] w4 (w4.setCell ⟨b, 5, none⟩ (.slice (some ⟨g, 0, none⟩) n rc)) := Mod.setCell _ _ _ (by simp)
  obtain ⟨w5, hw5⟩ : ∃ x, w4.setCell ⟨b, 5, none⟩ (.slice (some ⟨g, 0, none⟩) n rc) = x := ⟨_, rfl⟩
  rw [hw5] at hb5 m5 ⊢
  refine backm_to (K1 := []) (by kernel_rfl) m5 (by simp) ?_
  have hbg : b ≠ g := fun h => H4.out.apart (by simp [blk, h])
  have R5 : Hid (RowW w5 b v0 v1 v2 v3 v4 (some ⟨g, 0, none⟩) rc (hs.take n)) := Lib.hid ⟨by
    rw [List.length_take, HN.out, Nat.min_eq_left (by omega)]; exact hb5, OwnH.front (Own.mod H4.out.own m5 (by simp [blk]; omega)) n (by rw [HN.out]; omega), H4.out.apart⟩
  have HB5 := Lib.hid (m5.get HB4.out (by simp; omega))
  have M5 : Hid (Mod [b] w w5) := Lib.hid (M4.out.nil.trans' m5)
  have z0 := cell_of_block (i := 0) HB5.out
  have z1 := cell_of_block (i := 1) HB5.out
  have z2 := cell_of_block (i := 2) HB5.out
  have z3 := cell_of_block (i := 3) HB5.out
  clear hb5 m5 hw5 H4 HB4 M4 c5 f5
  refine rest_done (by kernel_rfl) ?_ _
  go_wp2_with fail
  go_ret
  exact ⟨rfl, R5.out, M5.out⟩
end Go.Proofs.YtigamomoegpefaaDoor
