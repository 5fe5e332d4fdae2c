/- The walk of cmd.Take; rows of commands of the call's own. -/
import Derived.Test.YtaagfoeedngdjaaDoorCmd10
namespace Go.Proofs.YtaagfoeedngdjaaDoor
open Go Go.RowKit Go.Lib

/-- What is told of a command that was read, without whether its parts are small. -/
def TakeV (g : Nat) (bs : List Nat) (w : World) (t : (Cd × Bool) × Int × List UInt8) (r : Ending) (w' : World) : Prop :=
  ∃ kao kcap, r = .returned (cmdV (t.1.1, kao, kcap)) ∧ Rd w' g bs t.2.1 t.2.2 64 ∧ SeesT w' kao t.1.1.keys ∧ Mod [g] w w' ∧ (∀ k, k ∈ blk kao → w.heap.size ≤ k)

set_option maxRecDepth 100000 in
set_option maxHeartbeats 4000000 in
theorem takeV_any (g : Nat) (bs : List Nat) (e : Int) (l : List UInt8) (w : World) (h : Rd w g bs e l 64) (hbs : ∀ k, k ∈ bs → k < w.heap.size) :
    Calls Tryd.prog 14 #[.pointer (some ⟨g, 0, none⟩)] w (TakeV g bs w (takeR e l)) := by
  have hg := h.lt
  obtain ⟨w1, hw1, m1, z1⟩ : ∃ w1, w.alloc (.cells #[.int .u32 0, .int .u32 0, .int .u8 0, .slice none 0 0, .string ⟨#[]⟩, .string ⟨#[]⟩, .int .i64 0] 36) = w1 ∧ Mod [] w w1 ∧ w1.heap[w.heap.size]? = some (.cells zeroCells 36 (0, 0)) :=
    ⟨_, rfl, Mod.alloc _ _ _, heap_alloc_new w _⟩
  have HT := Lib.hid (take_any g bs e l w1 (h.mod m1 List.not_mem_nil (fun _ _ => List.not_mem_nil)) (fun k hk => Nat.lt_of_lt_of_le (hbs k hk) m1.size))
  obtain ⟨⟨⟨⟨client, seq, kind, keys, old, fresh, n⟩, ok⟩, e', l'⟩, htr⟩ : ∃ x, takeR e l = x := ⟨_, rfl⟩
  rw [htr] at HT ⊢
  have M1 := Lib.hid m1
  have Z1 := Lib.hid z1
  have HB := Lib.hid hbs
  have hz1 := lt_of_block z1
  clear h hbs m1 z1 htr
  go_enter Tryd.func14, Tryd.ntmps14
  go_wp2_with fail
  refine HT.out.mono ?_
  rintro r w2 ⟨kao, kcap, rfl, r2, s2, m2, n2⟩
  dsimp only at r2 s2
  unfold cmdV
  dsimp only
  obtain ⟨w3, hw3', M3, z3, q0, q1, q2, q3, q4, q5, q6⟩ := box_facts (⟨client, seq, kind, keys, old, fresh, n⟩, kao, kcap) w2
  dsimp only at hw3' q0 q1 q2 q3 q4 q5 q6
  have Z3 := M3.get (m2.get Z1.out (by simp; omega)) List.not_mem_nil
  have C0 := cell_of_block (i := 0) Z3
  have C1 := cell_of_block (i := 1) Z3
  have C2 := cell_of_block (i := 2) Z3
  have C3 := cell_of_block (i := 3) Z3
  have C4 := cell_of_block (i := 4) Z3
  have C5 := cell_of_block (i := 5) Z3
  have C6 := cell_of_block (i := 6) Z3
  simp only [zeroCells, List.getElem?_toArray, List.getElem?_cons_succ, List.getElem?_cons_zero] at C0 C1 C2 C3 C4 C5 C6
  have F0 := free_of_block (i := 0) Z3
  have F1 := free_of_block (i := 1) Z3
  have F2 := free_of_block (i := 2) Z3
  have F3 := free_of_block (i := 3) Z3
  have F4 := free_of_block (i := 4) Z3
  have F5 := free_of_block (i := 5) Z3
  have F6 := free_of_block (i := 6) Z3
  have R3 := Lib.hid (r2.mod M3 List.not_mem_nil (fun _ _ => List.not_mem_nil))
  have S3 := Lib.hid (s2.mod0 M3)
  have HM := Lib.hid ((M1.out.nil.trans' m2).trans0 M3)
  have N2 := Lib.hid n2
  clear r2 s2 m2 n2 Z3 M3 hw1
  go_wp2_with fail
  ((try simp only [Exit.inBlock, Exit.then]); refine bodyPost_ret (by simp [results, Tryd.results14, go_sem, *]; try rfl) rfl ?_)
  refine ⟨kao, kcap, rfl, R3.out.mod (mod7 _ _ _ _ _ _ _ _ _) (by simp; omega) (fun k hk hm => by have := HB.out k hk; simp at hm; omega), S3.out.mod (mod7 _ _ _ _ _ _ _ _ _) (fun _ j hj hm => by have := N2.out j hj; simp at hm; omega), HM.out.trans (mod7 _ _ _ _ _ _ _ _ _) (by simp), fun k hk => by have := N2.out k hk; have := M1.out.size; omega⟩

/-- Rows of commands of the call's own. -/
def cellsC (l : List Cm) : List Value := l.flatMap cmdC
theorem cellsC_length (l : List Cm) : (cellsC l).length = l.length * 7 := by
  induction l with
  | nil => rfl
  | cons c l ih =>
    show (cmdC c ++ cellsC l).length = _
    rw [List.length_append, ih]
    show 7 + _ = (l.length + 1) * 7
    omega
theorem cellsC_at (l : List Cm) : ∀ (j : Nat) (hj : j < l.length) (i : Nat), i < 7 → (cellsC l)[j * 7 + i]? = (cmdC l[j])[i]? := by
  induction l with
  | nil => intro j hj; exact absurd hj (Nat.not_lt_zero _)
  | cons c l ih =>
    intro j hj i hi
    have e : cellsC (c :: l) = cmdC c ++ cellsC l := rfl
    have e7 : (cmdC c).length = 7 := rfl
    cases j with
    | zero =>
      rw [e, Nat.zero_mul, Nat.zero_add, List.getElem?_append_left (by omega)]
      rfl
    | succ j =>
      rw [e, List.getElem?_append_right (by omega), e7, show (j + 1) * 7 + i - 7 = j * 7 + i by omega, ih j (by simpa using hj) i hi]
      rfl
def OwnC (w : World) (ao : Option Addr) (cap : Nat) (l : List Cm) : Prop := Own w 36 7 ao l.length cap (cellsC l)
theorem OwnC.at' {w : World} {ao : Option Addr} {cap : Nat} {l : List Cm} (h : OwnC w ao cap l) {j : Nat} (hj : j < l.length) :
    ∃ g, ao = some ⟨g, 0, none⟩ ∧ ∀ i v, i < 7 → (cmdC l[j])[i]? = some v → w.cell? ⟨g, j * 7 + i, none⟩ = some v := by
  obtain ⟨g, h1, _⟩ := Own.cell h (j := j * 7 + 0) (u := .int .u32 (l[j].1.client : Int)) (by rw [cellsC_at l j hj 0 (by omega)]; rfl)
  refine ⟨g, h1, fun i v hi hv => ?_⟩
  obtain ⟨g', h1', h2', _⟩ := Own.cell h (j := j * 7 + i) (u := v) (by rw [cellsC_at l j hj i hi]; exact hv)
  rw [h1] at h1'
  cases h1'
  exact h2'
theorem OwnC.sees {w : World} {ao : Option Addr} {cap : Nat} {l : List Cm} (h : OwnC w ao cap l) (hk : ∀ c ∈ l, SeesT w c.2.1 c.1.keys) (hw : ∀ c ∈ l, Wf c.1) : SeesC w ao l := by
  intro j hj
  obtain ⟨g, h1, h2⟩ := h.at' hj
  have e0 : g = g := rfl
  refine ⟨g, 0, h1, ?_, ?_, ?_, ?_, ?_, ?_, ?_, hk _ (List.getElem_mem hj), hw _ (List.getElem_mem hj)⟩ <;> rw [Nat.zero_add]
  · exact h2 0 _ (by omega) rfl
  · exact h2 1 _ (by omega) rfl
  · exact h2 2 _ (by omega) rfl
  · exact h2 3 _ (by omega) rfl
  · exact h2 4 _ (by omega) rfl
  · exact h2 5 _ (by omega) rfl
  · exact h2 6 _ (by omega) rfl
theorem infoCmd : (Tryd.prog.info? 36).map (fun i => (i.zero, i.size, i.bytes)) = some (some (.agg #[.int .u32 0, .int .u32 0, .int .u8 0, .slice none 0 0, .string ⟨#[]⟩, .string ⟨#[]⟩, .int .i64 0]), 7, 80) := by kernel_rfl
theorem wpl_appC {w : World} {ops : Array Oper} {rest : List Oper} {a : Act} {Q : Exit → Act → World → Prop} {dst : Option Tmp} {ty : TypeId} {pos : String} {after : Array Edge} (s x : Operand)
    (ao : Option Addr) (n cap : Nat) (xs : List Cm) (hs : a.eval s = .slice ao n cap) (hn : xs.length = n) (hown : OwnC w ao cap xs)
    (g : Nat) (y : Cm) (hx : a.eval x = .slice (some ⟨g, 0, none⟩) 1 1) (hsh : Shows w (some ⟨g, 0, none⟩) (cellsC [y])) (hb : n + 1 ≤ 1000000)
    (h : ∀ ao' cap' w', OwnC w' ao' cap' (xs ++ [y]) → Mod (blk ao) w w' → SameOrNew w w' ao ao' → wpList Tryd.prog ops Q rest (a.put dst (.slice ao' (n + 1) cap')) w') :
    wpList Tryd.prog ops Q (⟨dst, .call { callee := .builtin .append, args := #[s, x], argTypes := #[22, 22] }, ty, pos, after, none⟩ :: rest) a w := by
  obtain ⟨i0, hi, hz0, hz1, hz2⟩ := info_parts infoCmd
  subst hn
  refine wpl_append w rfl s x 22 rfl 36 i0 _ 7 80 Tryd.underlying22 hi hz0 hz1 hz2 rfl (by decide) ao _ cap _ hs hown (some ⟨g, 0, none⟩) 1 1 (cellsC [y]) hx (cellsC_length [y]) hsh ?_ (by unfold maxLen; omega) (by omega) ?_
  · intro u hu
    obtain ⟨x, hx, hu⟩ := List.mem_flatMap.1 hu
    simp only [cmdC, List.mem_cons, List.not_mem_nil, or_false] at hu
    rcases hu with rfl | rfl | rfl | rfl | rfl | rfl | rfl <;> rfl
  · intro ao' cap' w' h1 h2 h3
    refine h ao' cap' w' ?_ h2 h3
    unfold OwnC cellsC
    rw [List.length_append, List.flatMap_append]
    exact h1
theorem showsC {w : World} {g : Nat} {x : Cm} {t : TypeId} {z : Nat × Nat} (h : w.heap[g]? = some (.cells (cmdC x).toArray t z)) : Shows w (some ⟨g, 0, none⟩) (cellsC [x]) := by
  intro j u hj
  refine ⟨_, rfl, ?_⟩
  rw [Addr.add_lit, cell_of_block h, Nat.zero_add]
  have : cellsC [x] = cmdC x := by simp [cellsC]
  rw [this] at hj
  rw [← hj]
  simp
end Go.Proofs.YtaagfoeedngdjaaDoor
