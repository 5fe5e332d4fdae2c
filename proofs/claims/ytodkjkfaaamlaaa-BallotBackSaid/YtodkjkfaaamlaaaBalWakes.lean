/- The walk of the ballot laws' wakes. -/
import Derived.Test.YtodkjkfaaamlaaaBallot4
import Derived.Test.YtodkjkfaaamlaaaBallot3
namespace Go.Proofs.Ytodkjkfaaamlaaa
open Go Go.RowKit Go.Lib

theorem of_w (n r : Int) (w : World) : Calls Try.prog 14 #[.int .u64 n, .int .i64 r] w fun e w' => e = .returned (.agg #[.int .u64 n, .int .i64 r]) ∧ Mod [] w w' := of_any n r w
theorem next_w (bN bR r n q e : Int) (w : World) (h0 : 0 ≤ bN) (h1 : bN ≤ 18446744073709551615) (h : nextB bN bR r = (n, q, e)) :
    Calls Try.prog 13 #[.agg #[.int .u64 bN, .int .i64 bR], .int .i64 r] w fun e' w' => e' = .returned (.tuple #[.agg #[.int .u64 n, .int .i64 q], .int .i64 e]) ∧ Mod [] w w' := by
  have := next_any bN bR r w h0 h1
  rw [h] at this
  exact this
theorem less_w (aN aR bN bR : Int) (v : Bool) (w : World) (h : lessB aN aR bN bR = v) : Calls Try.prog 11 #[.agg #[.int .u64 aN, .int .i64 aR], .agg #[.int .u64 bN, .int .i64 bR]] w fun e w' => e = .returned (.bool v) ∧ Mod [] w w' := by
  have := less_any aN aR bN bR w
  rw [h] at this
  exact this

set_option maxRecDepth 100000 in
set_option maxHeartbeats 4000000 in
theorem wakes14_any (w : World) : Calls Try.prog 10 #[] w fun e w' => e = .returned (.bool true) ∧ Mod [] w w' := by
  go_enter Try.func10, Try.ntmps10
  go_wp2_with fail
  refine (next_w 0 0 2 1 2 0 _ (by omega) (by omega) (by decide +kernel)).mono ?_
  rintro e w1 ⟨rfl, m1⟩
  have M1 := Lib.hid m1
  clear m1
  go_wp2_with fail
  refine (of_w 3 1 _).mono ?_
  rintro e w2 ⟨rfl, m2⟩
  have A0 : Hid (w2.cell? ⟨w1.heap.size, 0, none⟩ = some (.int .u64 1)) := m2.cell (by go_cell) (by simp)
  have A1 : Hid (w2.cell? ⟨w1.heap.size, 1, none⟩ = some (.int .i64 2)) := m2.cell (by go_cell) (by simp)
  have M2 : Hid (Mod [] w w2) := M1.out.trans' ((Mod.ofBelow (by go_grown)).trans' m2)
  clear m2 M1
  go_wp2_with fail
  refine (next_w 3 1 2 3 2 0 _ (by omega) (by omega) (by decide +kernel)).mono ?_
  rintro e w3 ⟨rfl, m3⟩
  have A2 := Lib.hid (m3.cell A0.out (by simp))
  have A3 := Lib.hid (m3.cell A1.out (by simp))
  have M3 := Lib.hid (M2.out.trans' m3)
  clear m3 M2 A0 A1
  go_wp2_with fail
  refine (of_w 3 1 _).mono ?_
  rintro e w4 ⟨rfl, m4⟩
  have mm := (Mod.alloc [] w3 (.cells #[.int .u64 3, .int .i64 2] 24)).trans' m4
  have A4 := Lib.hid (mm.cell A2.out (by simp))
  have A5 := Lib.hid (mm.cell A3.out (by simp))
  have B4 : Hid (w4.cell? ⟨w3.heap.size, 0, none⟩ = some (.int .u64 3)) := m4.cell (by go_cell) (by simp)
  have B5 : Hid (w4.cell? ⟨w3.heap.size, 1, none⟩ = some (.int .i64 2)) := m4.cell (by go_cell) (by simp)
  have M4 := Lib.hid (M3.out.trans' mm)
  clear m4 mm M3 A2 A3
  go_wp2_with fail
  refine (next_w 3 1 1 4 1 0 _ (by omega) (by omega) (by decide +kernel)).mono ?_
  rintro e w5 ⟨rfl, m5⟩
  have A6 := Lib.hid (m5.cell A4.out (by simp))
  have A7 := Lib.hid (m5.cell A5.out (by simp))
  have B6 := Lib.hid (m5.cell B4.out (by simp))
  have B7 := Lib.hid (m5.cell B5.out (by simp))
  have M5 := Lib.hid (M4.out.trans' m5)
  clear m5 M4 A4 A5 B4 B5
  go_upto_region 4 with (fail)
  have mm := Mod.alloc [] w5 (.cells #[.int .u64 4, .int .i64 1] 24)
  refine rest_start [] 52 #[false, false, false, false, false, false, false, false, false, false, false, false, false, false, false, false, false, false, false, false, false, false, false, false, false, false, false, false, false, false, false, false, false, false, false, false, false, false, false, false, false, false, false, false, false, false, false, false, false, false, false, false] rfl (by kernel_rfl) (by kernel_rfl) ?_
  intro w6 m6
  have C0 : Hid (w6.cell? ⟨w5.heap.size, 0, none⟩ = some (.int .u64 4)) := m6.cell (by go_cell) (by simp)
  have C1 : Hid (w6.cell? ⟨w5.heap.size, 1, none⟩ = some (.int .i64 1)) := m6.cell (by go_cell) (by simp)
  have m7 := mm.trans' m6
  have A0 := Lib.hid (m7.cell A6.out (by simp))
  have A1 := Lib.hid (m7.cell A7.out (by simp))
  have B0 := Lib.hid (m7.cell B6.out (by simp))
  have B1 := Lib.hid (m7.cell B7.out (by simp))
  have M6 := Lib.hid (M5.out.trans' m7)
  clear A6 A7 B6 B7 m7 m6 mm M5
  refine rest_got (i := 0) (v := ?v1) rfl (by kernel_rfl) (by kernel_rfl) (by kernel_rfl) (fun _ _ _ h => h) (by rfl) ?y1 ?r1
  case y1 => ((intro w9' hm9'; have hc9' := Mod.cell hm9' A0.out (by first | exact List.not_mem_nil | (simp; omega)); have hd9' := Mod.cell hm9' A1.out (by first | exact List.not_mem_nil | (simp; omega)); clear hm9'; go_simp; with_reducible rfl))
  try simp only [Act.put, List.setIfInBounds_toArray, List.set_cons_zero, List.set_cons_succ]
  refine rest_one (i := 1) (by kernel_rfl) rfl (by rfl) ?_
  go_wp2_with fail
  refine (of_w 1 2 _).mono ?_
  rintro e w7 ⟨rfl, m7⟩
  go_wp2_with fail
  refine back_to (K1 := []) m7 (by simp) ?_
  have M7 := Lib.hid (M6.out.trans' m7)
  replace A0 := Lib.hid (m7.cell A0.out (by simp))
  replace A1 := Lib.hid (m7.cell A1.out (by simp))
  replace B0 := Lib.hid (m7.cell B0.out (by simp))
  replace B1 := Lib.hid (m7.cell B1.out (by simp))
  replace C0 := Lib.hid (m7.cell C0.out (by simp))
  replace C1 := Lib.hid (m7.cell C1.out (by simp))
  clear m7 M6
  refine rest_got (i := 2) (v := ?v2) rfl (by kernel_rfl) (by kernel_rfl) (by kernel_rfl) (fun _ _ _ h => h) (by rfl) ?y2 ?r2
  case y2 => (intro w9q hSwq; clear hSwq; go_simp; with_reducible rfl)
  try simp only [Act.put, List.setIfInBounds_toArray, List.set_cons_zero, List.set_cons_succ]
  refine rest_got (i := 3) (v := ?v3) rfl (by kernel_rfl) (by kernel_rfl) (by kernel_rfl) (fun _ _ _ h => h) (by rfl) ?y3 ?r3
  case y3 => (intro w9q hSwq; clear hSwq; go_simp; with_reducible rfl)
  try simp only [Act.put, List.setIfInBounds_toArray, List.set_cons_zero, List.set_cons_succ]
  refine rest_got (i := 4) (v := ?v4) rfl (by kernel_rfl) (by kernel_rfl) (by kernel_rfl) (fun _ _ _ h => h) (by rfl) ?y4 ?r4
  case y4 => (intro w9q hSwq; clear hSwq; go_simp; with_reducible rfl)
  try simp only [Act.put, List.setIfInBounds_toArray, List.set_cons_zero, List.set_cons_succ]
  refine rest_got (i := 5) (v := ?v5) rfl (by kernel_rfl) (by kernel_rfl) (by kernel_rfl) (fun _ _ _ h => h) (by rfl) ?y5 ?r5
  case y5 => (intro w9q hSwq; clear hSwq; go_simp; with_reducible rfl)
  try simp only [Act.put, List.setIfInBounds_toArray, List.set_cons_zero, List.set_cons_succ]
  refine rest_got (i := 6) (v := ?v6) rfl (by kernel_rfl) (by kernel_rfl) (by kernel_rfl) (fun _ _ _ h => h) (by rfl) ?y6 ?r6
  case y6 => (intro w9q hSwq; clear hSwq; go_simp; with_reducible rfl)
  try simp only [Act.put, List.setIfInBounds_toArray, List.set_cons_zero, List.set_cons_succ]
  refine rest_got (i := 7) (v := ?v7) rfl (by kernel_rfl) (by kernel_rfl) (by kernel_rfl) (fun _ _ _ h => h) (by rfl) ?y7 ?r7
  case y7 => (intro w9q hSwq; clear hSwq; go_simp; with_reducible rfl)
  try simp only [Act.put, List.setIfInBounds_toArray, List.set_cons_zero, List.set_cons_succ]
  refine rest_got (i := 8) (v := ?v8) rfl (by kernel_rfl) (by kernel_rfl) (by kernel_rfl) (fun _ _ _ h => h) (by rfl) ?y8 ?r8
  case y8 => ((intro w9' hm9'; have hc9' := Mod.cell hm9' B0.out (by first | exact List.not_mem_nil | (simp; omega)); have hd9' := Mod.cell hm9' B1.out (by first | exact List.not_mem_nil | (simp; omega)); clear hm9'; go_simp; with_reducible rfl))
  try simp only [Act.put, List.setIfInBounds_toArray, List.set_cons_zero, List.set_cons_succ]
  refine rest_one (i := 9) (by kernel_rfl) rfl (by rfl) ?_
  go_wp2_with fail
  refine (of_w 3 2 _).mono ?_
  rintro e w8 ⟨rfl, m8⟩
  go_wp2_with fail
  refine back_to (K1 := []) m8 (by simp) ?_
  have M8 := Lib.hid (M7.out.trans' m8)
  replace A0 := Lib.hid (m8.cell A0.out (by simp))
  replace A1 := Lib.hid (m8.cell A1.out (by simp))
  replace B0 := Lib.hid (m8.cell B0.out (by simp))
  replace B1 := Lib.hid (m8.cell B1.out (by simp))
  replace C0 := Lib.hid (m8.cell C0.out (by simp))
  replace C1 := Lib.hid (m8.cell C1.out (by simp))
  clear m8 M7
  refine rest_got (i := 10) (v := ?v9) rfl (by kernel_rfl) (by kernel_rfl) (by kernel_rfl) (fun _ _ _ h => h) (by rfl) ?y9 ?r9
  case y9 => (intro w9q hSwq; clear hSwq; go_simp; with_reducible rfl)
  try simp only [Act.put, List.setIfInBounds_toArray, List.set_cons_zero, List.set_cons_succ]
  refine rest_got (i := 11) (v := ?v10) rfl (by kernel_rfl) (by kernel_rfl) (by kernel_rfl) (fun _ _ _ h => h) (by rfl) ?y10 ?r10
  case y10 => (intro w9q hSwq; clear hSwq; go_simp; with_reducible rfl)
  try simp only [Act.put, List.setIfInBounds_toArray, List.set_cons_zero, List.set_cons_succ]
  refine rest_got (i := 12) (v := ?v11) rfl (by kernel_rfl) (by kernel_rfl) (by kernel_rfl) (fun _ _ _ h => h) (by rfl) ?y11 ?r11
  case y11 => (intro w9q hSwq; clear hSwq; go_simp; with_reducible rfl)
  try simp only [Act.put, List.setIfInBounds_toArray, List.set_cons_zero, List.set_cons_succ]
  refine rest_got (i := 13) (v := ?v12) rfl (by kernel_rfl) (by kernel_rfl) (by kernel_rfl) (fun _ _ _ h => h) (by rfl) ?y12 ?r12
  case y12 => (intro w9q hSwq; clear hSwq; go_simp; with_reducible rfl)
  try simp only [Act.put, List.setIfInBounds_toArray, List.set_cons_zero, List.set_cons_succ]
  refine rest_got (i := 14) (v := ?v13) rfl (by kernel_rfl) (by kernel_rfl) (by kernel_rfl) (fun _ _ _ h => h) (by rfl) ?y13 ?r13
  case y13 => (intro w9q hSwq; clear hSwq; go_simp; with_reducible rfl)
  try simp only [Act.put, List.setIfInBounds_toArray, List.set_cons_zero, List.set_cons_succ]
  refine rest_got (i := 15) (v := ?v14) rfl (by kernel_rfl) (by kernel_rfl) (by kernel_rfl) (fun _ _ _ h => h) (by rfl) ?y14 ?r14
  case y14 => (intro w9q hSwq; clear hSwq; go_simp; with_reducible rfl)
  try simp only [Act.put, List.setIfInBounds_toArray, List.set_cons_zero, List.set_cons_succ]
  refine rest_got (i := 16) (v := ?v15) rfl (by kernel_rfl) (by kernel_rfl) (by kernel_rfl) (fun _ _ _ h => h) (by rfl) ?y15 ?r15
  case y15 => (intro w9q hSwq; clear hSwq; go_simp; with_reducible rfl)
  try simp only [Act.put, List.setIfInBounds_toArray, List.set_cons_zero, List.set_cons_succ]
  refine rest_got (i := 17) (v := ?v16) rfl (by kernel_rfl) (by kernel_rfl) (by kernel_rfl) (fun _ _ _ h => h) (by rfl) ?y16 ?r16
  case y16 => ((intro w9' hm9'; have hc9' := Mod.cell hm9' C0.out (by first | exact List.not_mem_nil | (simp; omega)); have hd9' := Mod.cell hm9' C1.out (by first | exact List.not_mem_nil | (simp; omega)); clear hm9'; go_simp; with_reducible rfl))
  try simp only [Act.put, List.setIfInBounds_toArray, List.set_cons_zero, List.set_cons_succ]
  refine rest_one (i := 18) (by kernel_rfl) rfl (by rfl) ?_
  go_wp2_with fail
  refine (of_w 4 1 _).mono ?_
  rintro e w9 ⟨rfl, m9⟩
  go_wp2_with fail
  refine back_to (K1 := []) m9 (by simp) ?_
  have M9 := Lib.hid (M8.out.trans' m9)
  replace A0 := Lib.hid (m9.cell A0.out (by simp))
  replace A1 := Lib.hid (m9.cell A1.out (by simp))
  replace B0 := Lib.hid (m9.cell B0.out (by simp))
  replace B1 := Lib.hid (m9.cell B1.out (by simp))
  replace C0 := Lib.hid (m9.cell C0.out (by simp))
  replace C1 := Lib.hid (m9.cell C1.out (by simp))
  clear m9 M8
  refine rest_got (i := 19) (v := ?v17) rfl (by kernel_rfl) (by kernel_rfl) (by kernel_rfl) (fun _ _ _ h => h) (by rfl) ?y17 ?r17
  case y17 => (intro w9q hSwq; clear hSwq; go_simp; with_reducible rfl)
  try simp only [Act.put, List.setIfInBounds_toArray, List.set_cons_zero, List.set_cons_succ]
  refine rest_got (i := 20) (v := ?v18) rfl (by kernel_rfl) (by kernel_rfl) (by kernel_rfl) (fun _ _ _ h => h) (by rfl) ?y18 ?r18
  case y18 => (intro w9q hSwq; clear hSwq; go_simp; with_reducible rfl)
  try simp only [Act.put, List.setIfInBounds_toArray, List.set_cons_zero, List.set_cons_succ]
  refine rest_got (i := 21) (v := ?v19) rfl (by kernel_rfl) (by kernel_rfl) (by kernel_rfl) (fun _ _ _ h => h) (by rfl) ?y19 ?r19
  case y19 => (intro w9q hSwq; clear hSwq; go_simp; with_reducible rfl)
  try simp only [Act.put, List.setIfInBounds_toArray, List.set_cons_zero, List.set_cons_succ]
  refine rest_got (i := 22) (v := ?v20) rfl (by kernel_rfl) (by kernel_rfl) (by kernel_rfl) (fun _ _ _ h => h) (by rfl) ?y20 ?r20
  case y20 => (intro w9q hSwq; clear hSwq; go_simp; with_reducible rfl)
  try simp only [Act.put, List.setIfInBounds_toArray, List.set_cons_zero, List.set_cons_succ]
  refine rest_got (i := 23) (v := ?v21) rfl (by kernel_rfl) (by kernel_rfl) (by kernel_rfl) (fun _ _ _ h => h) (by rfl) ?y21 ?r21
  case y21 => (intro w9q hSwq; clear hSwq; go_simp; with_reducible rfl)
  try simp only [Act.put, List.setIfInBounds_toArray, List.set_cons_zero, List.set_cons_succ]
  refine rest_got (i := 24) (v := ?v22) rfl (by kernel_rfl) (by kernel_rfl) (by kernel_rfl) (fun _ _ _ h => h) (by rfl) ?y22 ?r22
  case y22 => (intro w9q hSwq; clear hSwq; go_simp; with_reducible rfl)
  try simp only [Act.put, List.setIfInBounds_toArray, List.set_cons_zero, List.set_cons_succ]
  refine rest_got (i := 25) (v := ?v23) rfl (by kernel_rfl) (by kernel_rfl) (by kernel_rfl) (fun _ _ _ h => h) (by rfl) ?y23 ?r23
  case y23 => (intro w9q hSwq; clear hSwq; go_simp; with_reducible rfl)
  try simp only [Act.put, List.setIfInBounds_toArray, List.set_cons_zero, List.set_cons_succ]
  refine rest_one (i := 26) (by kernel_rfl) rfl (by rfl) ?_
  go_wp2_with fail
  refine (of_w 1 2 _).mono ?_
  rintro e w10 ⟨rfl, m10⟩
  go_wp2_with fail
  refine back_to (K1 := []) m10 (by simp) ?_
  have M10 := Lib.hid (M9.out.trans' m10)
  replace A0 := Lib.hid (m10.cell A0.out (by simp))
  replace A1 := Lib.hid (m10.cell A1.out (by simp))
  replace B0 := Lib.hid (m10.cell B0.out (by simp))
  replace B1 := Lib.hid (m10.cell B1.out (by simp))
  replace C0 := Lib.hid (m10.cell C0.out (by simp))
  replace C1 := Lib.hid (m10.cell C1.out (by simp))
  clear m10 M9
  
  refine rest_one (i := 27) (by kernel_rfl) rfl (by rfl) ?_
  go_wp2_with fail
  refine (of_w 2 0 _).mono ?_
  rintro e w11 ⟨rfl, m11⟩
  go_wp2_with fail
  refine back_to (K1 := []) m11 (by simp) ?_
  have M11 := Lib.hid (M10.out.trans' m11)
  replace A0 := Lib.hid (m11.cell A0.out (by simp))
  replace A1 := Lib.hid (m11.cell A1.out (by simp))
  replace B0 := Lib.hid (m11.cell B0.out (by simp))
  replace B1 := Lib.hid (m11.cell B1.out (by simp))
  replace C0 := Lib.hid (m11.cell C0.out (by simp))
  replace C1 := Lib.hid (m11.cell C1.out (by simp))
  clear m11 M10
  
  refine rest_one (i := 28) (by kernel_rfl) rfl (by rfl) ?_
  go_wp2_with fail
  refine (less_w 1 2 2 0 true _ (by decide +kernel)).mono ?_
  rintro e w12 ⟨rfl, m12⟩
  go_wp2_with fail
  refine back_to (K1 := []) m12 (by simp) ?_
  have M12 := Lib.hid (M11.out.trans' m12)
  replace A0 := Lib.hid (m12.cell A0.out (by simp))
  replace A1 := Lib.hid (m12.cell A1.out (by simp))
  replace B0 := Lib.hid (m12.cell B0.out (by simp))
  replace B1 := Lib.hid (m12.cell B1.out (by simp))
  replace C0 := Lib.hid (m12.cell C0.out (by simp))
  replace C1 := Lib.hid (m12.cell C1.out (by simp))
  clear m12 M11
  refine rest_got (i := 29) (v := ?v24) rfl (by kernel_rfl) (by kernel_rfl) (by kernel_rfl) (fun _ _ _ h => h) (by rfl) ?y24 ?r24
  case y24 => (intro w9q hSwq; clear hSwq; go_simp; with_reducible rfl)
  try simp only [Act.put, List.setIfInBounds_toArray, List.set_cons_zero, List.set_cons_succ]
  refine rest_got (i := 30) (v := ?v25) rfl (by kernel_rfl) (by kernel_rfl) (by kernel_rfl) (fun _ _ _ h => h) (by rfl) ?y25 ?r25
  case y25 => (intro w9q hSwq; clear hSwq; go_simp; with_reducible rfl)
  try simp only [Act.put, List.setIfInBounds_toArray, List.set_cons_zero, List.set_cons_succ]
  refine rest_one (i := 31) (by kernel_rfl) rfl (by rfl) ?_
  go_wp2_with fail
  refine (of_w 2 0 _).mono ?_
  rintro e w13 ⟨rfl, m13⟩
  go_wp2_with fail
  refine back_to (K1 := []) m13 (by simp) ?_
  have M13 := Lib.hid (M12.out.trans' m13)
  replace A0 := Lib.hid (m13.cell A0.out (by simp))
  replace A1 := Lib.hid (m13.cell A1.out (by simp))
  replace B0 := Lib.hid (m13.cell B0.out (by simp))
  replace B1 := Lib.hid (m13.cell B1.out (by simp))
  replace C0 := Lib.hid (m13.cell C0.out (by simp))
  replace C1 := Lib.hid (m13.cell C1.out (by simp))
  clear m13 M12
  
  refine rest_one (i := 32) (by kernel_rfl) rfl (by rfl) ?_
  go_wp2_with fail
  refine (of_w 2 0 _).mono ?_
  rintro e w14 ⟨rfl, m14⟩
  go_wp2_with fail
  refine back_to (K1 := []) m14 (by simp) ?_
  have M14 := Lib.hid (M13.out.trans' m14)
  replace A0 := Lib.hid (m14.cell A0.out (by simp))
  replace A1 := Lib.hid (m14.cell A1.out (by simp))
  replace B0 := Lib.hid (m14.cell B0.out (by simp))
  replace B1 := Lib.hid (m14.cell B1.out (by simp))
  replace C0 := Lib.hid (m14.cell C0.out (by simp))
  replace C1 := Lib.hid (m14.cell C1.out (by simp))
  clear m14 M13
  
  refine rest_one (i := 33) (by kernel_rfl) rfl (by rfl) ?_
  go_wp2_with fail
  refine (less_w 2 0 2 0 false _ (by decide +kernel)).mono ?_
  rintro e w15 ⟨rfl, m15⟩
  go_wp2_with fail
  refine back_to (K1 := []) m15 (by simp) ?_
  have M15 := Lib.hid (M14.out.trans' m15)
  replace A0 := Lib.hid (m15.cell A0.out (by simp))
  replace A1 := Lib.hid (m15.cell A1.out (by simp))
  replace B0 := Lib.hid (m15.cell B0.out (by simp))
  replace B1 := Lib.hid (m15.cell B1.out (by simp))
  replace C0 := Lib.hid (m15.cell C0.out (by simp))
  replace C1 := Lib.hid (m15.cell C1.out (by simp))
  clear m15 M14
  refine rest_got (i := 34) (v := ?v26) rfl (by kernel_rfl) (by kernel_rfl) (by kernel_rfl) (fun _ _ _ h => h) (by rfl) ?y26 ?r26
  case y26 => (intro w9q hSwq; clear hSwq; go_simp; with_reducible rfl)
  try simp only [Act.put, List.setIfInBounds_toArray, List.set_cons_zero, List.set_cons_succ]
  refine rest_got (i := 35) (v := ?v27) rfl (by kernel_rfl) (by kernel_rfl) (by kernel_rfl) (fun _ _ _ h => h) (by rfl) ?y27 ?r27
  case y27 => (intro w9q hSwq; clear hSwq; go_simp; with_reducible rfl)
  try simp only [Act.put, List.setIfInBounds_toArray, List.set_cons_zero, List.set_cons_succ]
  refine rest_got (i := 36) (v := ?v28) rfl (by kernel_rfl) (by kernel_rfl) (by kernel_rfl) (fun _ _ _ h => h) (by rfl) ?y28 ?r28
  case y28 => (intro w9q hSwq; clear hSwq; go_simp; with_reducible rfl)
  try simp only [Act.put, List.setIfInBounds_toArray, List.set_cons_zero, List.set_cons_succ]
  refine rest_one (i := 37) (by kernel_rfl) rfl (by rfl) ?_
  go_wp2_with fail
  refine (of_w 1 1 _).mono ?_
  rintro e w16 ⟨rfl, m16⟩
  go_wp2_with fail
  refine back_to (K1 := []) m16 (by simp) ?_
  have M16 := Lib.hid (M15.out.trans' m16)
  replace A0 := Lib.hid (m16.cell A0.out (by simp))
  replace A1 := Lib.hid (m16.cell A1.out (by simp))
  replace B0 := Lib.hid (m16.cell B0.out (by simp))
  replace B1 := Lib.hid (m16.cell B1.out (by simp))
  replace C0 := Lib.hid (m16.cell C0.out (by simp))
  replace C1 := Lib.hid (m16.cell C1.out (by simp))
  clear m16 M15
  
  refine rest_one (i := 38) (by kernel_rfl) rfl (by rfl) ?_
  go_wp2_with fail
  refine (of_w 1 2 _).mono ?_
  rintro e w17 ⟨rfl, m17⟩
  go_wp2_with fail
  refine back_to (K1 := []) m17 (by simp) ?_
  have M17 := Lib.hid (M16.out.trans' m17)
  replace A0 := Lib.hid (m17.cell A0.out (by simp))
  replace A1 := Lib.hid (m17.cell A1.out (by simp))
  replace B0 := Lib.hid (m17.cell B0.out (by simp))
  replace B1 := Lib.hid (m17.cell B1.out (by simp))
  replace C0 := Lib.hid (m17.cell C0.out (by simp))
  replace C1 := Lib.hid (m17.cell C1.out (by simp))
  clear m17 M16
  
  refine rest_one (i := 39) (by kernel_rfl) rfl (by rfl) ?_
  go_wp2_with fail
  refine (of_w 1 0 _).mono ?_
  rintro e w18 ⟨rfl, m18⟩
  go_wp2_with fail
  refine back_to (K1 := []) m18 (by simp) ?_
  have M18 := Lib.hid (M17.out.trans' m18)
  replace A0 := Lib.hid (m18.cell A0.out (by simp))
  replace A1 := Lib.hid (m18.cell A1.out (by simp))
  replace B0 := Lib.hid (m18.cell B0.out (by simp))
  replace B1 := Lib.hid (m18.cell B1.out (by simp))
  replace C0 := Lib.hid (m18.cell C0.out (by simp))
  replace C1 := Lib.hid (m18.cell C1.out (by simp))
  clear m18 M17
  
  clear A0 A1 B0 B1 C0 C1
  refine rest_one (i := 40) (by kernel_rfl) rfl (by rfl) ?_
  go_wp2_with fail
  refine back_to (K1 := []) (Mod.alloc _ _ _) (by simp) ?_
  have S18 : Hid (SeesB (w18.alloc (.cells #[.int .u64 1, .int .i64 1, .int .u64 1, .int .i64 2, .int .u64 1, .int .i64 0] 24)) (some ⟨w18.heap.size, 0, none⟩) [(1, 1), (1, 2), (1, 0)]) := by
    have hb := heap_alloc_new w18 (.cells #[.int .u64 1, .int .i64 1, .int .u64 1, .int .i64 2, .int .u64 1, .int .i64 0] 24)
    intro j hj
    refine ⟨_, _, rfl, ?_, ?_⟩ <;> rw [cell_of_block hb] <;> match j, hj with
      | 0, _ => rfl
      | 1, _ => rfl
      | 2, _ => rfl
  
  refine rest_one (i := 41) (by kernel_rfl) rfl (by rfl) ?_
  go_wp2_with fail
  refine (max_any _ 3 3 [(1, 1), (1, 2), (1, 0)] _ rfl (by omega) S18.out).mono ?_
  rw [show maxK [(1, 1), (1, 2), (1, 0)] ([(1, 1), (1, 2), (1, 0)] : List (Int × Int)).length = (1, 2) by decide +kernel]
  unfold ballot
  rintro e w19 ⟨rfl, m19⟩
  have M19 := Lib.hid ((M18.out.trans' (Mod.alloc _ _ _)).trans' m19)
  go_wp2_with fail
  refine back_to (K1 := []) m19 (by simp) ?_
  clear m19 M18 S18
  
  refine rest_one (i := 42) (by kernel_rfl) rfl (by rfl) ?_
  go_wp2_with fail
  refine (of_w 1 2 _).mono ?_
  rintro e w20 ⟨rfl, m20⟩
  have M20 := Lib.hid (M19.out.trans' m20)
  go_wp2_with fail
  refine back_to (K1 := []) m20 (by simp) ?_
  clear m20 M19
  refine rest_got (i := 43) (v := ?v29) rfl (by kernel_rfl) (by kernel_rfl) (by kernel_rfl) (fun _ _ _ h => h) (by rfl) ?y29 ?r29
  case y29 => (intro w9q hSwq; clear hSwq; go_simp; with_reducible rfl)
  try simp only [Act.put, List.setIfInBounds_toArray, List.set_cons_zero, List.set_cons_succ]
  refine rest_got (i := 44) (v := ?v30) rfl (by kernel_rfl) (by kernel_rfl) (by kernel_rfl) (fun _ _ _ h => h) (by rfl) ?y30 ?r30
  case y30 => (intro w9q hSwq; clear hSwq; go_simp; with_reducible rfl)
  try simp only [Act.put, List.setIfInBounds_toArray, List.set_cons_zero, List.set_cons_succ]
  refine rest_got (i := 45) (v := ?v31) rfl (by kernel_rfl) (by kernel_rfl) (by kernel_rfl) (fun _ _ _ h => h) (by rfl) ?y31 ?r31
  case y31 => (intro w9q hSwq; clear hSwq; go_simp; with_reducible rfl)
  try simp only [Act.put, List.setIfInBounds_toArray, List.set_cons_zero, List.set_cons_succ]
  refine rest_one (i := 46) (by kernel_rfl) rfl (by rfl) ?_
  go_wp2_with fail
  refine (of_w 300 2 _).mono ?_
  rintro e w21 ⟨rfl, m21⟩
  have M21 := Lib.hid (M20.out.trans' m21)
  go_wp2_with fail
  refine back_to (K1 := []) m21 (by simp) ?_
  clear m21 M20
  
  refine rest_one (i := 47) (by kernel_rfl) rfl (by rfl) ?_
  go_wp2_with fail
  refine (put_any none 0 0 300 2 [] _ rfl (OwnB.nil _) (by omega) (by omega) (by omega)).mono ?_
  rw [show ([] ++ enc7 300 ++ enc7 2 : List UInt8) = [172, 2, 2] by decide +kernel]
  rintro e w22 ⟨a22, n22, c22, rfl, h22, o22, m22, n22'⟩
  subst h22
  have M22 := Lib.hid (M21.out.trans' m22)
  have O22 := Lib.hid o22.sees
  go_wp2_with fail
  refine back_to (K1 := []) m22 (by simp) ?_
  clear o22 m22 n22' M21
  refine rest_got (i := 48) (v := ?v32) rfl (by kernel_rfl) (by kernel_rfl) (by kernel_rfl) (fun _ _ _ h => h) (by rfl) ?y32 ?r32
  case y32 => ((intro w9' hm9'; refine Eq.trans (reads_str _ _ _ _ 5 Try.underlying35 Try.underlying5 Try.underlying9 _ _ _ _ rfl (by first | rfl | simp) O22.out (by first | (intro k _ hk; exact (List.not_mem_nil hk)) | simp) w9' hm9') ?_; with_reducible rfl))
  try simp only [Act.put, List.setIfInBounds_toArray, List.set_cons_zero, List.set_cons_succ]
  refine rest_got (i := 49) (v := ?v33) rfl (by kernel_rfl) (by kernel_rfl) (by kernel_rfl) (fun _ _ _ h => h) (by rfl) ?y33 ?r33
  case y33 => ((intro w9' hm9'; refine Eq.trans (reads_eqs w9' _ _ _ _ _ rfl rfl) ?_; refine Eq.trans (congrArg (fun b => Result.ok (Next.value (Value.bool b)) w9') (decide_eq_true rfl)) ?_; with_reducible rfl))
  try simp only [Act.put, List.setIfInBounds_toArray, List.set_cons_zero, List.set_cons_succ]
  refine rest_got (i := 50) (v := ?v34) rfl (by kernel_rfl) (by kernel_rfl) (by kernel_rfl) (fun _ _ _ h => h) (by rfl) ?y34 ?r34
  case y34 => (intro w9q hSwq; clear hSwq; go_simp; with_reducible rfl)
  try simp only [Act.put, List.setIfInBounds_toArray, List.set_cons_zero, List.set_cons_succ]
  refine rest_got (i := 51) (v := ?v35) rfl (by kernel_rfl) (by kernel_rfl) (by kernel_rfl) (fun _ _ _ h => h) (by rfl) ?y35 ?r35
  case y35 => (intro w9q hSwq; clear hSwq; go_simp; with_reducible rfl)
  try simp only [Act.put, List.setIfInBounds_toArray, List.set_cons_zero, List.set_cons_succ]
  refine rest_done (by kernel_rfl) ?_ _
  go_wp2
  go_ret
  exact ⟨rfl, M22.out⟩
end Go.Proofs.Ytodkjkfaaamlaaa
