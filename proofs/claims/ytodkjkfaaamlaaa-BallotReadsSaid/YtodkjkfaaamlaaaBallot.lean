/- The walks of the ballot package: the order of two ballots. -/
import Derived.Test.YtodkjkfaaamlaaaRegion
namespace Go.Proofs.Ytodkjkfaaamlaaa
open Go Go.RowKit Go.Lib

theorem isNaN64_any (a : Int) (w : World) : Calls Try.prog 39 #[.int .u64 a] w fun e w' => e = .returned (.bool false) ∧ w' = w := by
  go_enter Try.func39, Try.ntmps39
  go_wp2
  go_ret
  exact ⟨rfl, rfl⟩
theorem isNaNi_any (a : Int) (w : World) : Calls Try.prog 40 #[.int .i64 a] w fun e w' => e = .returned (.bool false) ∧ w' = w := by
  go_enter Try.func40, Try.ntmps40
  go_wp2
  go_ret
  exact ⟨rfl, rfl⟩
def cmpI (a b : Int) : Int := if a < b then -1 else if b < a then 1 else 0
theorem compare64_any (a b : Int) (w : World) : Calls Try.prog 36 #[.int .u64 a, .int .u64 b] w fun e w' => e = .returned (.int .i64 (cmpI a b)) ∧ w' = w := by
  unfold cmpI
  go_enter Try.func36, Try.ntmps36
  go_wp2_with (go_at_call 39; refine (isNaN64_any _ _).mono ?_; rintro e w1 ⟨rfl, rfl⟩)
  all_goals go_ret
  all_goals simp [*]
theorem comparei_any (a b : Int) (w : World) : Calls Try.prog 37 #[.int .i64 a, .int .i64 b] w fun e w' => e = .returned (.int .i64 (cmpI a b)) ∧ w' = w := by
  unfold cmpI
  go_enter Try.func37, Try.ntmps37
  go_wp2_with (go_at_call 40; refine (isNaNi_any _ _).mono ?_; rintro e w1 ⟨rfl, rfl⟩)
  all_goals go_ret
  all_goals simp [*]
/-- cmp.Or of two. -/
theorem or2_any (g : Nat) (x y : Int) (w : World) (h0 : w.cell? ⟨g, 0, none⟩ = some (.int .i64 x)) (h1 : w.cell? ⟨g, 1, none⟩ = some (.int .i64 y)) :
    Calls Try.prog 35 #[.slice (some ⟨g, 0, none⟩) 2 2] w fun e w' => e = .returned (.int .i64 (if x = 0 then y else x)) ∧ w' = w := by
  go_enter Try.func35, Try.ntmps35
  go_wp2
  refine wp_loop_rounds 3 ?_
  rw [rounds_succ]
  by_cases hx : x = 0
  · subst hx
    go_wp2
    rw [rounds_succ]
    by_cases hy : y = 0
    · subst hy
      go_wp2
      rw [rounds_succ]
      go_wp2
      go_ret
      exact ⟨rfl, rfl⟩
    · go_wp2
      go_ret
      exact ⟨by simp, rfl⟩
  · go_wp2
    go_ret
    exact ⟨by simp [hx], rfl⟩

/-- The order of two ballots, as a number. -/
def ordB (aN aR bN bR : Int) : Int := if cmpI aN bN = 0 then cmpI aR bR else cmpI aN bN
def ballot (n r : Int) : Value := .agg #[.int .u64 n, .int .i64 r]
theorem order_any (aN aR bN bR : Int) (w : World) : Calls Try.prog 32 #[ballot aN aR, ballot bN bR] w fun e w' => e = .returned (.int .i64 (ordB aN aR bN bR)) ∧ Mod [] w w' := by
  unfold ballot
  go_enter Try.func32, Try.ntmps32
  go_upto_region 1 with (fail)
  have hb1 : ((w.alloc (.cells #[.int .u64 aN, .int .i64 aR] 24)).alloc (.cells #[.int .u64 bN, .int .i64 bR] 24)).heap[w.heap.size]? = some (.cells #[.int .u64 aN, .int .i64 aR] 24 (0, 0)) :=
    (Mod.alloc [] (w.alloc (.cells #[.int .u64 aN, .int .i64 aR] 24)) (.cells #[.int .u64 bN, .int .i64 bR] 24)).get (heap_alloc_new w _) (by simp)
  have hb2 : ((w.alloc (.cells #[.int .u64 aN, .int .i64 aR] 24)).alloc (.cells #[.int .u64 bN, .int .i64 bR] 24)).heap[w.heap.size + 1]? = some (.cells #[.int .u64 bN, .int .i64 bR] 24 (0, 0)) := by
    have := heap_alloc_new (w.alloc (.cells #[.int .u64 aN, .int .i64 aR] 24)) (.cells #[.int .u64 bN, .int .i64 bR] 24)
    simpa using this
  have hm0 : Mod [] w ((w.alloc (.cells #[.int .u64 aN, .int .i64 aR] 24)).alloc (.cells #[.int .u64 bN, .int .i64 bR] 24)) := (Mod.alloc _ _ _).trans' (Mod.alloc _ _ _)
  refine rest_start [] 13 #[false, false, false, false, false, false, false, false, false, false, false, false, false] rfl (by kernel_rfl) (by kernel_rfl) ?_
  intro w1 m1
  have A0 := Lib.hid (cell_of_block (i := 0) (m1.get hb1 (by simp)))
  have A1 := Lib.hid (cell_of_block (i := 1) (m1.get hb1 (by simp)))
  have B0 := Lib.hid (cell_of_block (i := 0) (m1.get hb2 (by simp)))
  have B1 := Lib.hid (cell_of_block (i := 1) (m1.get hb2 (by simp)))
  have M1 := Lib.hid (hm0.trans' m1)
  clear hb1 hb2 hm0 m1
  refine rest_got (i := 0) (v := ?v1) rfl (by kernel_rfl) (by kernel_rfl) (by kernel_rfl) (fun _ _ _ h => h) (by rfl) ?y1 ?r1
  case y1 => (intro w9q hSwq; clear hSwq; go_simp; with_reducible rfl)
  try simp only [Act.put, List.setIfInBounds_toArray, List.set_cons_zero, List.set_cons_succ]
  refine rest_got (i := 1) (v := ?v2) rfl (by kernel_rfl) (by kernel_rfl) (by kernel_rfl) (fun _ _ _ h => h) (by rfl) ?y2 ?r2
  case y2 => ((intro w9' hm9'; have hc9' := Mod.cell hm9' A0.out (by first | exact List.not_mem_nil | (simp; omega)); clear hm9'; go_simp; with_reducible rfl))
  try simp only [Act.put, List.setIfInBounds_toArray, List.set_cons_zero, List.set_cons_succ]
  refine rest_got (i := 2) (v := ?v3) rfl (by kernel_rfl) (by kernel_rfl) (by kernel_rfl) (fun _ _ _ h => h) (by rfl) ?y3 ?r3
  case y3 => (intro w9q hSwq; clear hSwq; go_simp; with_reducible rfl)
  try simp only [Act.put, List.setIfInBounds_toArray, List.set_cons_zero, List.set_cons_succ]
  refine rest_got (i := 3) (v := ?v4) rfl (by kernel_rfl) (by kernel_rfl) (by kernel_rfl) (fun _ _ _ h => h) (by rfl) ?y4 ?r4
  case y4 => ((intro w9' hm9'; have hc9' := Mod.cell hm9' B0.out (by first | exact List.not_mem_nil | (simp; omega)); clear hm9'; go_simp; with_reducible rfl))
  try simp only [Act.put, List.setIfInBounds_toArray, List.set_cons_zero, List.set_cons_succ]
  refine rest_got (i := 5) (v := ?v5) rfl (by kernel_rfl) (by kernel_rfl) (by kernel_rfl) (fun _ _ _ h => h) (by rfl) ?y5 ?r5
  case y5 => (intro w9q hSwq; clear hSwq; go_simp; with_reducible rfl)
  try simp only [Act.put, List.setIfInBounds_toArray, List.set_cons_zero, List.set_cons_succ]
  refine rest_got (i := 6) (v := ?v6) rfl (by kernel_rfl) (by kernel_rfl) (by kernel_rfl) (fun _ _ _ h => h) (by rfl) ?y6 ?r6
  case y6 => ((intro w9' hm9'; have hc9' := Mod.cell hm9' A1.out (by first | exact List.not_mem_nil | (simp; omega)); clear hm9'; go_simp; with_reducible rfl))
  try simp only [Act.put, List.setIfInBounds_toArray, List.set_cons_zero, List.set_cons_succ]
  refine rest_got (i := 7) (v := ?v7) rfl (by kernel_rfl) (by kernel_rfl) (by kernel_rfl) (fun _ _ _ h => h) (by rfl) ?y7 ?r7
  case y7 => (intro w9q hSwq; clear hSwq; go_simp; with_reducible rfl)
  try simp only [Act.put, List.setIfInBounds_toArray, List.set_cons_zero, List.set_cons_succ]
  refine rest_got (i := 8) (v := ?v8) rfl (by kernel_rfl) (by kernel_rfl) (by kernel_rfl) (fun _ _ _ h => h) (by rfl) ?y8 ?r8
  case y8 => ((intro w9' hm9'; have hc9' := Mod.cell hm9' B1.out (by first | exact List.not_mem_nil | (simp; omega)); clear hm9'; go_simp; with_reducible rfl))
  try simp only [Act.put, List.setIfInBounds_toArray, List.set_cons_zero, List.set_cons_succ]
  clear A0 A1 B0 B1
  refine rest_one (i := 4) (by kernel_rfl) rfl (by rfl) ?_
  go_wp2_with fail
  refine (compare64_any _ _ _).mono ?_
  rintro e w2 ⟨rfl, rfl⟩
  go_wp2_with fail
  refine back_to (K1 := []) (Mod.refl _ _) (by simp) ?_
  
  refine rest_one (i := 9) (by kernel_rfl) rfl (by rfl) ?_
  go_wp2_with fail
  refine (comparei_any _ _ _).mono ?_
  rintro e w2 ⟨rfl, rfl⟩
  go_wp2_with fail
  refine back_to (K1 := []) (Mod.refl _ _) (by simp) ?_
  generalize hx : cmpI aN bN = x
  generalize hy : cmpI aR bR = y
  have HX := Lib.hid hx
  have HY := Lib.hid hy
  clear hx hy
  
  refine rest_one (i := 10) (by kernel_rfl) rfl (by rfl) ?_
  go_wp2_with fail
  refine back_to (K1 := []) (Mod.alloc _ _ _) (by simp) ?_
  have hb := heap_alloc_new w2 (.cells #[.int .i64 x, .int .i64 y] 3)
  have A0 := Lib.hid (cell_of_block (i := 0) hb)
  have A1 := Lib.hid (cell_of_block (i := 1) hb)
  have M2 := Lib.hid (M1.out.trans' (Mod.alloc [] w2 (.cells #[.int .i64 x, .int .i64 y] 3)))
  clear hb M1
  
  refine rest_one (i := 11) (by kernel_rfl) rfl (by rfl) ?_
  go_wp2_with fail
  refine (or2_any _ x y _ A0.out A1.out).mono ?_
  rintro e w3 ⟨rfl, rfl⟩
  have ho : Hid (ordB aN aR bN bR = if x = 0 then y else x) := by show _ = _; rw [ordB, HX.out, HY.out]
  generalize hz : (if x = 0 then y else x) = z at ho ⊢
  clear hz
  go_wp2_with fail
  refine back_to (K1 := []) (Mod.refl _ _) (by simp) ?_
  refine rest_got (i := 12) (v := ?v9) rfl (by kernel_rfl) (by kernel_rfl) (by kernel_rfl) (fun _ _ _ h => h) (by rfl) ?y9 ?r9
  case y9 => (intro w9q hSwq; clear hSwq; go_simp; with_reducible rfl)
  try simp only [Act.put, List.setIfInBounds_toArray, List.set_cons_zero, List.set_cons_succ]
  refine rest_done (by kernel_rfl) ?_ _
  go_wp2
  go_ret
  rw [ho.out]
  exact ⟨rfl, M2.out⟩

def lessB (aN aR bN bR : Int) : Bool := decide (aN < bN ∨ (aN = bN ∧ aR < bR))
theorem ordB_less (aN aR bN bR : Int) : decide (ordB aN aR bN bR < 0) = lessB aN aR bN bR := by
  unfold ordB cmpI lessB
  repeat' split
  all_goals simp_all
  all_goals omega
theorem less_any (aN aR bN bR : Int) (w : World) : Calls Try.prog 11 #[ballot aN aR, ballot bN bR] w fun e w' => e = .returned (.bool (lessB aN aR bN bR)) ∧ Mod [] w w' := by
  by_cases he : aN = bN ∧ aR = bR
  · obtain ⟨rfl, rfl⟩ := he
    have hl : Hid (lessB aN aR aN aR = false) := by unfold Hid lessB; simp
    unfold ballot
    go_enter Try.func11, Try.ntmps11
    go_wp2
    go_ret
    rw [hl.out]
    exact ⟨rfl, (Mod.alloc _ _ _).trans' (Mod.alloc _ _ _)⟩
  have hl := Lib.hid (ordB_less aN aR bN bR)
  by_cases hN : aN = bN
  · subst hN
    have hR : ¬ aR = bR := fun h => he ⟨rfl, h⟩
    clear he
    unfold ballot
    go_enter Try.func11, Try.ntmps11
    go_wp2_with fail
    refine (order_any aN aR aN bR _).mono ?_
    rintro e w1 ⟨rfl, m1⟩
    have hm : Hid (Mod [] w w1) := ((Mod.alloc [] w (.cells #[.int .u64 aN, .int .i64 aR] 24)).trans' (Mod.alloc [] _ (.cells #[.int .u64 aN, .int .i64 bR] 24))).trans' m1
    clear m1
    generalize ordB aN aR aN bR = z at hl ⊢
    go_wp2
    go_ret
    rw [← hl.out]
    exact ⟨rfl, hm.out⟩
  · clear he
    unfold ballot
    go_enter Try.func11, Try.ntmps11
    go_wp2_with fail
    refine (order_any aN aR bN bR _).mono ?_
    rintro e w1 ⟨rfl, m1⟩
    have hm : Hid (Mod [] w w1) := ((Mod.alloc [] w (.cells #[.int .u64 aN, .int .i64 aR] 24)).trans' (Mod.alloc [] _ (.cells #[.int .u64 bN, .int .i64 bR] 24))).trans' m1
    clear m1
    generalize ordB aN aR bN bR = z at hl ⊢
    go_wp2
    go_ret
    rw [← hl.out]
    exact ⟨rfl, hm.out⟩
end Go.Proofs.Ytodkjkfaaamlaaa
