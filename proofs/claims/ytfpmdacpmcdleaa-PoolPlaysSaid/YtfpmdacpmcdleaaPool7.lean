/- A pool is made. -/
import Derived.Test.YtfpmdacpmcdleaaPool6
import Derived.BigQuiet
namespace Go.Proofs.Ytfpmdacpmcdleaa
open Go Go.RowKit Go.Lib

theorem infoBuf : (Try.prog.info? 59).map (fun i => (i.zero, i.size, i.bytes)) = some (some (.agg #[.slice none 0 0, .int .i64 0, .int .u32 0, .bool false]), 4, 40) := by kernel_rfl
theorem wpl_appBf {w : World} {ops : Array Oper} {rest : List Oper} {a : Act} {Q : Exit → Act → World → Prop} {dst : Option Tmp} {ty : TypeId} {pos : String} {after : Array Edge} (s x : Operand)
    (ab sz : Nat) (ao : Option Addr) (n cap : Nat) (xs : List Bf) (hs : a.eval s = .slice ao n cap) (hn : xs.length = n) (hown : OwnBf w ab sz ao cap xs)
    (so : Option Addr) (m c : Nat) (ys : List Bf) (hx : a.eval x = .slice so m c) (hm : ys.length = m) (hsh : Shows w so (cellsB ab sz ys)) (hb : n + m ≤ 1000000000)
    (h : ∀ ao' cap' w', OwnBf w' ab sz ao' cap' (xs ++ ys) → Mod (blk ao) w w' → SameOrNew w w' ao ao' → wpList Try.prog ops Q rest (a.put dst (.slice ao' (n + m) cap')) w') :
    wpList Try.prog ops Q (⟨dst, .call { callee := .builtin .append, args := #[s, x], argTypes := #[55, 55] }, ty, pos, after, none⟩ :: rest) a w := by
  obtain ⟨i0, hi, hz0, hz1, hz2⟩ := info_parts infoBuf
  subst hn hm
  refine wpl_append w rfl s x 55 rfl 59 i0 _ 4 40 Try.underlying55 hi hz0 hz1 hz2 rfl (by decide) ao _ cap _ hs hown so _ c (cellsB ab sz ys) hx (cellsB_length _ _ ys) hsh ?_ (by unfold maxLen; omega) (by omega) ?_
  · intro u hu
    obtain ⟨x, _, hu⟩ := List.mem_flatMap.1 hu
    simp only [bufC, List.mem_cons, List.not_mem_nil, or_false] at hu
    rcases hu with rfl | rfl | rfl | rfl <;> rfl
  · intro ao' cap' w' h1 h2 h3
    refine h ao' cap' w' ?_ h2 h3
    unfold OwnBf cellsB
    rw [List.length_append, List.flatMap_append]
    exact h1
theorem showsB1 {w : World} {g ab sz : Nat} {x : Bf} {t : TypeId} {z : Nat × Nat} (h : w.heap[g]? = some (.cells #[.slice (some ⟨ab, x.1, none⟩) sz sz, .int .i64 (x.2.1 : Int), .int .u32 x.2.2.1, .bool x.2.2.2] t z)) : Shows w (some ⟨g, 0, none⟩) (cellsB ab sz [x]) := by
  intro j u hj
  refine ⟨_, rfl, ?_⟩
  rw [Addr.add_lit, cell_of_block h, Nat.zero_add]
  have : cellsB ab sz [x] = [.slice (some ⟨ab, x.1, none⟩) sz sz, .int .i64 (x.2.1 : Int), .int .u32 x.2.2.1, .bool x.2.2.2] := by simp [cellsB, bufC]
  rw [this] at hj
  rw [← hj]
  simp

set_option maxRecDepth 100000 in
theorem new_bad (n size : Int) (w : World) (hb : n < 1 ∨ 4096 < n ∨ size < 1 ∨ 65536 < size) :
    Calls Try.prog 5 #[.int .i64 n, .int .i64 size] w fun e w' => e = .returned (.tuple #[.pointer none, .int .i64 1]) ∧ w' = w := by
  by_cases h1 : n < 1
  · clear hb
    go_enter Try.func5, Try.ntmps5
    go_wp2
    go_ret2
    exact ⟨rfl, rfl⟩
  by_cases h2 : 4096 < n
  · clear hb
    go_enter Try.func5, Try.ntmps5
    go_wp2
    go_ret2
    exact ⟨rfl, rfl⟩
  by_cases h3 : size < 1
  · clear hb
    go_enter Try.func5, Try.ntmps5
    go_wp2
    go_ret2
    exact ⟨rfl, rfl⟩
  have h4 : 65536 < size := by omega
  clear hb
  go_enter Try.func5, Try.ntmps5
  go_wp2
  go_ret2
  exact ⟨rfl, rfl⟩

def bufsN (sz k : Nat) : List Bf := (List.range k).map fun i => (i * sz, 0, 0, false)
def frN (n k : Nat) : List Nat := (List.range k).map fun i => n - 1 - i
theorem bufsN_succ (sz k : Nat) : bufsN sz (k + 1) = bufsN sz k ++ [(k * sz, 0, 0, false)] := by simp [bufsN, List.range_succ]
theorem frN_succ (n k : Nat) : frN n (k + 1) = frN n k ++ [n - 1 - k] := by simp [frN, List.range_succ]
theorem bufsN_length (sz k : Nat) : (bufsN sz k).length = k := by simp [bufsN]
theorem frN_length (n k : Nat) : (frN n k).length = k := by simp [frN]
theorem frN_all (n : Nat) : frN n n = (List.range n).reverse := by
  apply List.ext_getElem
  · simp [frN]
  · intro i h1 h2
    simp [frN]
theorem fits_new (n sz : Nat) : Fits sz (bufsN sz n) (List.replicate (n * sz) 0) (List.replicate n ([], 0, false)) := by
  refine ⟨by simp [bufsN], by simp, ?_⟩
  intro j h1 h2
  simp [bufsN]

/-- What a round of New keeps. -/
def NewRel (w0 : World) (g ab sz n N k : Nat) (la : Option Addr) (lc : Nat) (fa : Option Addr) (fc : Nat) (w : World) : Prop :=
  w.heap[g]? = some (.cells #[.slice la k lc, .slice fa k fc] 57 (0, 0)) ∧ OwnBf w ab sz la lc (bufsN sz k) ∧ OwnI w fa fc (frN n k) ∧ OwnB w (some ⟨ab, 0, none⟩) N (List.replicate N 0) ∧
    (∀ j, j ∈ blk la → j ≠ g ∧ j ≠ ab ∧ j ∉ blk fa ∧ w0.heap.size ≤ j) ∧ (∀ j, j ∈ blk fa → j ≠ g ∧ j ≠ ab ∧ w0.heap.size ≤ j) ∧ g ≠ ab ∧ w0.heap.size ≤ g ∧ w0.heap.size ≤ ab ∧ Mod [] w0 w

set_option maxRecDepth 100000 in
set_option maxHeartbeats 4000000 in
theorem new_ok (n sz : Nat) (w : World) (h1 : 1 ≤ n) (h2 : n ≤ 4096) (h3 : 1 ≤ sz) (h4 : sz ≤ 65536) :
    Calls Try.prog 5 #[.int .i64 (n : Int), .int .i64 (sz : Int)] w fun e w' => ∃ g F, e = .returned (.tuple #[.pointer (some ⟨g, 0, none⟩), .int .i64 0]) ∧
      PoolW w' g F sz (List.replicate n ([], 0, false)) (List.range n).reverse ∧ Mod [] w w' ∧ ∀ j, j ∈ F → w.heap.size ≤ j := by
  have hN : n * sz ≤ 268435456 := Nat.le_trans (Nat.mul_le_mul h2 h4) (by decide)
  obtain ⟨N, hNe⟩ : ∃ N, n * sz = N := ⟨_, rfl⟩
  rw [hNe] at hN
  have hm1 : wrap64 ((n : Int) * (sz : Int)) = (N : Int) := by rw [← Int.natCast_mul, hNe]; exact IntWalk.wrap64_in _ ⟨by omega, by omega⟩
  have HN := Lib.hid hNe
  have HM1 := Lib.hid hm1
  clear hNe hm1
  go_enter Try.func5, Try.ntmps5
  have ma := Mod.alloc [] w (.cells #[.slice none 0 0, .slice none 0 0] 57)
  have ea := heap_alloc_new w (.cells #[.slice none 0 0, .slice none 0 0] 57)
  have MA := Lib.hid ma
  have EA := Lib.hid ea
  clear ma ea
  go_wp2_with (first | (at_make; refine wpl_make8 (dst := some 28) _ _ .i64 .i64 _ _ N rfl rfl HM1.out HM1.out (by omega) ?_) | fail)
  intro ab w1 o1 m1 z1
  have O1 := Lib.hid o1
  have Z1 := Lib.hid z1
  have M1 := Lib.hid (MA.out.trans' m1)
  have E1 := Lib.hid (m1.get EA.out (by simp))
  have HZ1 : Hid (w.heap.size ≠ ab ∧ w.heap.size ≤ ab) := by have := Z1.out; simp at this; exact ⟨by omega, by omega⟩
  clear o1 z1 m1
  generalize hg : w.heap.size = g at *
  have HG := Lib.hid hg
  clear hg
  go_wp2
  go_loopw [30] (fun i wr => ∃ (k : Nat) (la : Option Addr) (lc : Nat) (fa : Option Addr) (fc : Nat), k ≤ n ∧ i = .int .i64 (k : Int) ∧ NewRel w g ab sz n N k la lc fa fc wr) (fun i _ => n - (intOf i).toNat)
  case atStart =>
    refine ⟨0, none, 0, none, 0, Nat.zero_le _, rfl, E1.out, Own.nil0 _ _ _, Own.nil0 _ _ _, O1.out, by simp [blk], by simp [blk], HZ1.out.1, by rw [HG.out]; exact Nat.le_refl _, by rw [HG.out]; exact HZ1.out.2, M1.out⟩
  case round =>
    obtain ⟨k, la, lc, fa, fc, hk, rfl, hrel⟩ := hrel
    have HR := Lib.hid hrel
    clear hrel
    by_cases hlt : k < n
    · have hq0 : (k + 1) * sz ≤ n * sz := Nat.mul_le_mul_right _ (by omega)
      rw [HN.out, Nat.add_mul, Nat.one_mul] at hq0
      have hq1 : ((k : Int) + 1) * (sz : Int) = ((k * sz + sz : Nat) : Int) := by rw [Int.natCast_add, Int.natCast_mul, Int.add_mul, Int.one_mul]
      have hp1 : (k : Int) * (sz : Int) = ((k * sz : Nat) : Int) := (Int.natCast_mul _ _).symm
      obtain ⟨p, hp⟩ : ∃ p, k * sz = p := ⟨_, rfl⟩
      rw [hp] at hq0 hq1 hp1
      have hw1 : IntKind.i64.wrap ((k : Int) * (sz : Int)) = (p : Int) := by rw [hp1]; exact IntWalk.i64_in _ (by omega)
      have hw3 : IntKind.i64.wrap (((k : Int) + 1) * (sz : Int)) = ((p + sz : Nat) : Int) := by rw [hq1]; exact IntWalk.i64_in _ (by omega)
      have hw2 : IntKind.i64.wrap ((k : Int) + 1) = (k : Int) + 1 := IntWalk.i64_in _ (by omega)
      have HP := Lib.hid hp
      have b0 : 0 ≤ (p : Int) := by omega
      have b1 : (p : Int) ≤ ((p + sz : Nat) : Int) := by omega
      have b2 : ((p + sz : Nat) : Int) ≤ (N : Int) := by omega
      have b3 : 0 ≤ ((p + sz : Nat) : Int) := by omega
      clear hp hp1 hq1
      go_wp2
      refine restu_start 20 [] (g :: blk la) 24 #[false, false, false, false, false, false, false, false, false, false, false, false, false, false, false, false, false, false, false, false, false, false, false, false] rfl (by kernel_rfl) (by kernel_rfl) ?_
      intro w2 m2
      obtain ⟨r1, r2, r3, r4, r5, r6, r7, r8, r9, r10⟩ := HR.out
      have C1 := Lib.hid (cell_of_block (i := 0) (m2.get r1 (by simp)))
      have RR : Hid (NewRel w g ab sz n N k la lc fa fc w2) := ⟨m2.get r1 (by simp), Own.mod0 r2 m2, Own.mod0 r3 m2, r4.mod0 m2, r5, r6, r7, r8, r9, r10.trans' m2⟩
      clear r1 r2 r3 r4 r5 r6 r7 r8 r9 r10 m2 HR
      refine restu_got (i := 0) (v := ?v1) rfl (by kernel_rfl) (by kernel_rfl) (by kernel_rfl) (by rfl) (fun _ _ _ h => h) (by rfl) ?y1 ?r1
      case y1 => (intro w9q hSwq; clear hSwq; go_simp; with_reducible rfl)
      try simp only [Act.put, List.setIfInBounds_toArray, List.set_cons_zero, List.set_cons_succ]
      refine restu_got (i := 1) (v := ?v2) rfl (by kernel_rfl) (by kernel_rfl) (by kernel_rfl) (by rfl) (fun _ _ _ h => h) (by rfl) ?y2 ?r2
      case y2 => (intro w9q hSwq; clear hSwq; go_simp; with_reducible rfl)
      try simp only [Act.put, List.setIfInBounds_toArray, List.set_cons_zero, List.set_cons_succ]
      refine restu_got (i := 2) (v := ?v3) rfl (by kernel_rfl) (by kernel_rfl) (by kernel_rfl) (by rfl) (fun _ _ _ h => h) (by rfl) ?y3 ?r3
      case y3 => (intro w9q hSwq; clear hSwq; go_simp; with_reducible rfl)
      try simp only [Act.put, List.setIfInBounds_toArray, List.set_cons_zero, List.set_cons_succ]
      refine restu_got (i := 3) (v := ?v4) rfl (by kernel_rfl) (by kernel_rfl) (by kernel_rfl) (by rfl) (fun _ _ _ h => h) (by rfl) ?y4 ?r4
      case y4 => (intro w9q hSwq; clear hSwq; go_simp; with_reducible rfl)
      try simp only [Act.put, List.setIfInBounds_toArray, List.set_cons_zero, List.set_cons_succ]
      refine restu_early (i := 4) [20, 21, 22, 23] (v := ?v5) rfl (by kernel_rfl) (by kernel_rfl) (by kernel_rfl) (by rfl) (by kernel_rfl) (by rfl) (by kernel_rfl) (fun _ _ _ h => h) (by rfl) ?y5 ?r5
      case y5 => ((intro w9' hm9'; have hc9' := Mod.cell hm9' C1.out (by first | exact List.not_mem_nil | (simp; done) | (simp; omega)); clear hm9'; go_simp; with_reducible rfl))
      try simp only [Act.put, List.setIfInBounds_toArray, List.set_cons_zero, List.set_cons_succ]
      refine restu_got (i := 5) (v := ?v6) rfl (by kernel_rfl) (by kernel_rfl) (by kernel_rfl) (by rfl) (fun _ _ _ h => h) (by rfl) ?y6 ?r6
      case y6 => (intro w9q hSwq; clear hSwq; go_simp; with_reducible rfl)
      try simp only [Act.put, List.setIfInBounds_toArray, List.set_cons_zero, List.set_cons_succ]
      refine restu_got (i := 6) (v := ?v7) rfl (by kernel_rfl) (by kernel_rfl) (by kernel_rfl) (by rfl) (fun _ _ _ h => h) (by rfl) ?y7 ?r7
      case y7 => (intro w9q hSwq; clear hSwq; go_simp; with_reducible rfl)
      try simp only [Act.put, List.setIfInBounds_toArray, List.set_cons_zero, List.set_cons_succ]
      refine restu_got (i := 7) (v := ?v8) rfl (by kernel_rfl) (by kernel_rfl) (by kernel_rfl) (by rfl) (fun _ _ _ h => h) (by rfl) ?y8 ?r8
      case y8 => (intro w9q hSwq; clear hSwq; go_simp; with_reducible rfl)
      try simp only [Act.put, List.setIfInBounds_toArray, List.set_cons_zero, List.set_cons_succ]
      refine restu_got (i := 8) (v := ?v9) rfl (by kernel_rfl) (by kernel_rfl) (by kernel_rfl) (by rfl) (fun _ _ _ h => h) (by rfl) ?y9 ?r9
      case y9 => (intro w9q hSwq; clear hSwq; go_simp; with_reducible rfl)
      try simp only [Act.put, List.setIfInBounds_toArray, List.set_cons_zero, List.set_cons_succ]
      refine restu_got (i := 9) (v := ?v10) rfl (by kernel_rfl) (by kernel_rfl) (by kernel_rfl) (by rfl) (fun _ _ _ h => h) (by rfl) ?y10 ?r10
      case y10 => (intro w9q hSwq; clear hSwq; go_simp; with_reducible rfl)
      try simp only [Act.put, List.setIfInBounds_toArray, List.set_cons_zero, List.set_cons_succ]
      refine restu_got (i := 10) (v := ?v11) rfl (by kernel_rfl) (by kernel_rfl) (by kernel_rfl) (by rfl) (fun _ _ _ h => h) (by rfl) ?y11 ?r11
      case y11 => (intro w9q hSwq; clear hSwq; go_simp; with_reducible rfl)
      try simp only [Act.put, List.setIfInBounds_toArray, List.set_cons_zero, List.set_cons_succ]
      refine restu_got (i := 11) (v := ?v12) rfl (by kernel_rfl) (by kernel_rfl) (by kernel_rfl) (by rfl) (fun _ _ _ h => h) (by rfl) ?y12 ?r12
      case y12 => (intro w9q hSwq; clear hSwq; go_simp; with_reducible rfl)
      try simp only [Act.put, List.setIfInBounds_toArray, List.set_cons_zero, List.set_cons_succ]
      refine restu_got (i := 12) (v := ?v13) rfl (by kernel_rfl) (by kernel_rfl) (by kernel_rfl) (by rfl) (fun _ _ _ h => h) (by rfl) ?y13 ?r13
      case y13 => (intro w9q hSwq; clear hSwq; go_simp; with_reducible rfl)
      try simp only [Act.put, List.setIfInBounds_toArray, List.set_cons_zero, List.set_cons_succ]
      refine restu_got (i := 13) (v := ?v14) rfl (by kernel_rfl) (by kernel_rfl) (by kernel_rfl) (by rfl) (fun _ _ _ h => h) (by rfl) ?y14 ?r14
      case y14 => (intro w9q hSwq; clear hSwq; go_simp; with_reducible rfl)
      try simp only [Act.put, List.setIfInBounds_toArray, List.set_cons_zero, List.set_cons_succ]
      refine restu_got (i := 14) (v := ?v15) rfl (by kernel_rfl) (by kernel_rfl) (by kernel_rfl) (by rfl) (fun _ _ _ h => h) (by rfl) ?y15 ?r15
      case y15 => (intro w9q hSwq; clear hSwq; go_simp; with_reducible rfl)
      try simp only [Act.put, List.setIfInBounds_toArray, List.set_cons_zero, List.set_cons_succ]
      refine restu_got (i := 15) (v := ?v16) rfl (by kernel_rfl) (by kernel_rfl) (by kernel_rfl) (by rfl) (fun _ _ _ h => h) (by rfl) ?y16 ?r16
      case y16 => (intro w9q hSwq; clear hSwq; go_simp; with_reducible rfl)
      try simp only [Act.put, List.setIfInBounds_toArray, List.set_cons_zero, List.set_cons_succ]
      refine restu_got (i := 16) (v := ?v17) rfl (by kernel_rfl) (by kernel_rfl) (by kernel_rfl) (by rfl) (fun _ _ _ h => h) (by rfl) ?y17 ?r17
      case y17 => (intro w9q hSwq; clear hSwq; go_simp; with_reducible rfl)
      try simp only [Act.put, List.setIfInBounds_toArray, List.set_cons_zero, List.set_cons_succ]
      refine restu_one (i := 17) (by kernel_rfl) rfl (by rfl) ?_
      go_wp2_with fail
      rw [show p + sz - p = sz from by omega]
      refine backu_to (K' := []) (K2' := g :: blk la) (Mod.refl _ _) (by simp) (by simp) (fun _ h _ => h) ?_
      clear hw1 hw3 b0 b1 b2 b3 C1
      refine restu_got (i := 18) (v := ?v18) rfl (by kernel_rfl) (by kernel_rfl) (by kernel_rfl) (by rfl) (fun _ _ _ h => h) (by rfl) ?y18 ?r18
      case y18 => (intro w9q hSwq; clear hSwq; go_simp; with_reducible rfl)
      try simp only [Act.put, List.setIfInBounds_toArray, List.set_cons_zero, List.set_cons_succ]
      refine restu_one (i := 19) (by kernel_rfl) rfl (by rfl) ?_
      go_wp2_with fail
      have mb := Mod.alloc [] w2 (.cells #[.slice (some ⟨ab, p, none⟩) sz sz, .int .i64 0, .int .u32 0, .bool false] 59)
      have HSH := Lib.hid (showsB1 (x := (p, 0, 0, false)) (heap_alloc_new w2 (.cells #[.slice (some ⟨ab, p, none⟩) sz sz, .int .i64 0, .int .u32 0, .bool false] 59)))
      refine backu_to (K' := []) (K2' := g :: blk la) mb (by simp) (by simp) (fun _ h _ => h) ?_
      obtain ⟨r1, r2, r3, r4, r5, r6, r7, r8, r9, r10⟩ := RR.out
      have I1 := Lib.hid (mb.get r1 (by simp))
      have I2 := Lib.hid (Own.mod0 r2 mb)
      have I3 := Lib.hid (Own.mod0 r3 mb)
      have I4 := Lib.hid (r4.mod0 mb)
      have I5 := Lib.hid r5
      have I6 := Lib.hid r6
      have I7 := Lib.hid (And.intro r7 (And.intro r8 r9))
      have I10 := Lib.hid (r10.trans' mb)
      have L1 := Lib.hid (And.intro (lt_of_block r1) (And.intro (Own.lt r4 ab (by simp [blk])) (Own.lt r3)))
      have LB : Hid ((bufsN sz k).length = k) := bufsN_length sz k
      have ng : Hid (g ∉ blk la) := fun hm => (r5 g hm).1 rfl
      clear r1 r2 r3 r4 r5 r6 r7 r8 r9 r10 mb RR
      
      refine restu_one (i := 20) (by kernel_rfl) rfl (by rfl) ?_
      go_wp2_with (first | (at_builtin; refine wpl_appBf (dst := some 53) _ _ ab sz la k lc (bufsN sz k) rfl LB.out I2.out _ 1 1 [(p, 0, 0, false)] rfl rfl HSH.out (by omega) ?_) | fail)
      intro a3 c3 w3 o3 m3 s3
      have O3 := Lib.hid o3
      have G3 := Lib.hid (m3.get I1.out ng.out)
      have N3 : Hid (∀ j, j ∈ blk a3 → j ≠ g ∧ j ≠ ab ∧ j ∉ blk fa ∧ w.heap.size ≤ j) := fun j hj => by
        rcases s3.blk j hj with h | h
        · exact I5.out j h
        · have h2 := L1.out
          have h3 := I10.out.size
          have hs2 : w2.heap.size ≤ j := by simp at h; omega
          have h4 := I7.out.2.1
          exact ⟨by omega, by omega, fun hm => by have := h2.2.2 j hm; omega, by omega⟩
      have J3 := Lib.hid (Own.mod I3.out m3 (fun j hj hm => (I5.out j hm).2.2.1 hj))
      have A3 := Lib.hid (I4.out.mod m3 (fun j hj hm => by simp [blk] at hj; subst hj; exact (I5.out j hm).2.1 rfl))
      have M3 : Hid (Mod [] w w3) := I10.out.trans m3 (fun j hj hl => by have := (I5.out j hj).2.2.2; omega)
      go_wp2_with fail
      refine backm_to (K1 := [g]) (by kernel_rfl) (m3.weaken (fun j hj => by simp [hj])) (fun j hj _ => by simp at hj; simp [hj]) ?_
      clear o3 m3 s3 HSH I1 I2 I3 I4 I5 I10 L1
      refine rest_got (i := 21) (v := ?v19) rfl (by kernel_rfl) (by kernel_rfl) (by kernel_rfl) (fun _ _ _ h => h) (by rfl) ?y19 ?r19
      case y19 => (intro w9q hSwq; clear hSwq; go_simp; with_reducible rfl)
      try simp only [Act.put, List.setIfInBounds_toArray, List.set_cons_zero, List.set_cons_succ]
      refine rest_got (i := 22) (v := ?v20) rfl (by kernel_rfl) (by kernel_rfl) (by kernel_rfl) (fun _ _ _ h => h) (by rfl) ?y20 ?r20
      case y20 => (intro w9q hSwq; clear hSwq; go_simp; with_reducible rfl)
      try simp only [Act.put, List.setIfInBounds_toArray, List.set_cons_zero, List.set_cons_succ]
      have g4 := cell_of_block (i := 0) G3.out
      have f4 := free_of_block (i := 0) G3.out
      refine rest_one (i := 23) (by kernel_rfl) rfl (by rfl) ?_
      go_wp2_with fail
      have m5 := Mod.setCell (S := [g]) w3 ⟨g, 0, none⟩ (.slice a3 (k + 1) c3) (by simp)
      refine back_to (K1 := []) m5 (by simp) ?_
      clear g4 f4
      refine rest_done (by kernel_rfl) ?_ _
      have G5 : Hid ((w3.setCell ⟨g, 0, none⟩ (.slice a3 (k + 1) c3)).heap[g]? = some (.cells #[.slice a3 (k + 1) c3, .slice fa k fc] 57 (0, 0))) := heap_setCell_same (i := 0) G3.out (.slice a3 (k + 1) c3)
      have B5 : Hid (OwnBf (w3.setCell ⟨g, 0, none⟩ (.slice a3 (k + 1) c3)) ab sz a3 c3 (bufsN sz (k + 1))) := by
        have hs := bufsN_succ sz k
        rw [HP.out] at hs
        rw [hs]
        exact Own.mod O3.out m5 (fun j hj => by simp; exact (N3.out j hj).1)
      have J5 := Lib.hid (Own.mod J3.out m5 (fun j hj => by simp; exact (I6.out j hj).1))
      have A5 := Lib.hid (A3.out.mod m5 (fun j hj => by simp [blk] at hj; subst hj; simp; exact Ne.symm I7.out.1))
      have M5 : Hid (Mod [] w (w3.setCell ⟨g, 0, none⟩ (.slice a3 (k + 1) c3))) := M3.out.trans m5 (fun j hj hl => by simp at hj; subst hj; have := I7.out.2.1; omega)
      generalize w3.setCell ⟨g, 0, none⟩ (.slice a3 (k + 1) c3) = w5 at *
      clear m5 G3 O3 J3 A3 M3
      have hw4 : IntKind.i64.wrap ((n : Int) - 1) = (n : Int) - 1 := IntWalk.i64_in _ (by omega)
      have hw5 : IntKind.i64.wrap ((n : Int) - 1 - (k : Int)) = ((n - 1 - k : Nat) : Int) := by rw [show (n : Int) - 1 - (k : Int) = ((n - 1 - k : Nat) : Int) by omega]; exact IntWalk.i64_in _ (by omega)
      have LF : Hid ((frN n k).length = k) := frN_length n k
      obtain ⟨x, hx⟩ : ∃ x, n - 1 - k = x := ⟨_, rfl⟩
      rw [hx] at hw5
      have HX := Lib.hid hx
      clear hx
      have hx4 : (n : Int) - 1 - (k : Int) = (x : Int) := by have := HX.out; omega
      have mb := Mod.alloc [] w5 (.cells #[.int .i64 (x : Int)] 3)
      have HSH := Lib.hid (showsI1 (heap_alloc_new w5 (.cells #[.int .i64 (x : Int)] 3)))
      have I1 := Lib.hid (mb.get G5.out (by simp))
      have I2 := Lib.hid (Own.mod0 B5.out mb)
      have I3 := Lib.hid (Own.mod0 J5.out mb)
      have I4 := Lib.hid (A5.out.mod0 mb)
      have I10 := Lib.hid (M5.out.trans' mb)
      have c5 := cell_of_block (i := 1) G5.out
      have L1 := Lib.hid (And.intro (lt_of_block G5.out) (And.intro (Own.lt A5.out ab (by simp [blk])) (Own.lt B5.out)))
      clear mb hw4 hw5
      go_wp2_with (first | (at_builtin; refine wpl_appI (dst := some 66) _ _ fa k fc (frN n k) rfl LF.out I3.out _ 1 1 [x] rfl rfl HSH.out (by omega) ?_) | fail)
      intro a7 c7 w7 o7 m7 s7
      have O7 := Lib.hid o7
      have M7 := Lib.hid m7
      have S7 := Lib.hid s7
      clear o7 m7 s7
      have G7 := Lib.hid (M7.out.get I1.out (fun hm => (I6.out g hm).1 rfl))
      have N7 : Hid (∀ j, j ∈ blk a7 → j ≠ g ∧ j ≠ ab ∧ j ∉ blk a3 ∧ w.heap.size ≤ j) := fun j hj => by
        rcases S7.out.blk j hj with h | h
        · exact ⟨(I6.out j h).1, (I6.out j h).2.1, fun hm => (N3.out j hm).2.2.1 h, (I6.out j h).2.2⟩
        · have h2 := L1.out
          have hs2 : w5.heap.size ≤ j := by simp at h; omega
          have h4 := I7.out.2.1
          exact ⟨by omega, by omega, fun hm => by have := h2.2.2 j hm; omega, by omega⟩
      have c7' := cell_of_block (i := 1) G7.out
      have f7 := free_of_block (i := 1) G7.out
      have m9 := Mod.setCell (S := [g]) w7 ⟨g, 1, none⟩ (.slice a7 (k + 1) c7) (by simp)
      have G9 : Hid ((w7.setCell ⟨g, 1, none⟩ (.slice a7 (k + 1) c7)).heap[g]? = some (.cells #[.slice a3 (k + 1) c3, .slice a7 (k + 1) c7] 57 (0, 0))) := heap_setCell_same (i := 1) G7.out (.slice a7 (k + 1) c7)
      have RR : Hid (NewRel w g ab sz n N (k + 1) a3 c3 a7 c7 (w7.setCell ⟨g, 1, none⟩ (.slice a7 (k + 1) c7))) := by
        refine ⟨G9.out, ?_, ?_, ?_, ?_, ?_, I7.out.1, I7.out.2.1, I7.out.2.2, ?_⟩
        · exact Own.mod (Own.mod I2.out M7.out (fun j hj hm => (N3.out j hj).2.2.1 hm)) m9 (fun j hj => by simp; exact (N3.out j hj).1)
        · have hs := frN_succ n k
          rw [HX.out] at hs
          rw [hs]
          exact Own.mod O7.out m9 (fun j hj => by simp; exact (N7.out j hj).1)
        · exact (I4.out.mod M7.out (fun j hj hm => by simp [blk] at hj; subst hj; exact (I6.out j hm).2.1 rfl)).mod m9 (fun j hj => by simp [blk] at hj; subst hj; simp; exact Ne.symm I7.out.1)
        · exact fun j hj => ⟨(N3.out j hj).1, (N3.out j hj).2.1, fun hm => (N7.out j hm).2.2.1 hj, (N3.out j hj).2.2.2⟩
        · exact fun j hj => ⟨(N7.out j hj).1, (N7.out j hj).2.1, (N7.out j hj).2.2.2⟩
        · exact (I10.out.trans M7.out (fun j hj hl => by have := (I6.out j hj).2.2; omega)).trans m9 (fun j hj hl => by simp at hj; subst hj; have := I7.out.2.1; omega)
      clear m9 G9
      go_wp2
      go_roundw
      case rel => exact ⟨k + 1, a3, c3, a7, c7, by omega, by go_num, RR.out⟩
      case measure => simp [intOf]; omega
    · have hke : k = n := by omega
      subst hke
      go_wp2
      go_ret2
      obtain ⟨r1, r2, r3, r4, r5, r6, r7, r8, r9, r10⟩ := HR.out
      have hb := Own.ne_none r2 (by rw [bufsN_length]; exact h1)
      obtain ⟨b, rfl, hb⟩ := hb
      obtain ⟨d1, d2, d3, d4⟩ := r5 b (by simp [blk])
      refine ⟨g, g :: b :: ab :: blk fa, rfl, ⟨b, lc, fa, fc, ab, bufsN sz k, List.replicate N 0, ⟨?_, r2, ?_, ?_, nodup4 (Ne.symm d1) r7 d2 (fun j hj => ⟨(r6 j hj).1, fun e => d3 (e ▸ hj), (r6 j hj).2.1⟩)⟩, rfl, by rw [← HN.out]; exact fits_new _ _, h4, ?_⟩, r10, ?_⟩
      · rw [bufsN_length, List.length_reverse, List.length_range]; exact r1
      · rw [← frN_all]; exact r3
      · rw [List.length_replicate]; exact r4
      · intro i hi; simpa using hi
      · intro j hj
        simp only [List.mem_cons] at hj
        rcases hj with rfl | rfl | rfl | hj
        · exact r8
        · exact d4
        · exact r9
        · exact (r6 j hj).2.2
end Go.Proofs.Ytfpmdacpmcdleaa
