/- The walk of the ballot laws' wakes. -/
import Derived.Test.YtodkjkfaaamlaaaBallot4
import Derived.Test.YtodkjkfaaamlaaaBallot3
namespace Go.Proofs.Ytodkjkfaaamlaaa
open Go Go.RowKit Go.Lib

theorem of_w (n r : Int) (w : World) : Calls Try.prog 14 #[.int .u64 n, .int .i64 r] w fun e w' => e = .returned (.agg #[.int .u64 n, .int .i64 r]) ∧ Mod [] w w' := of_any n r w
theorem next_w (bN bR r n q e : Int) (w : World) (h0 : 0 ≤ bN) (h1 : bN ≤ 18446744073709551615) (h : nextB bN bR r = (n, q, e)) :
    Calls Try.prog 13 #[.agg #[.int .u64 bN, .int .i64 bR], .int .i64 r] w fun e' w' => e' = .returned (.tuple #[.agg #[.int .u64 n, .int .i64 q], .int .i64 e]) ∧ Mod [] w w' := by
  have := next_any bN bR r w h0 h1
  rw [h] at this
  exact this
theorem less_w (aN aR bN bR : Int) (v : Bool) (w : World) (h : lessB aN aR bN bR = v) : Calls Try.prog 11 #[.agg #[.int .u64 aN, .int .i64 aR], .agg #[.int .u64 bN, .int .i64 bR]] w fun e w' => e = .returned (.bool v) ∧ Mod [] w w' := by
  have := less_any aN aR bN bR w
  rw [h] at this
  exact this

set_option maxRecDepth 100000 in
set_option maxHeartbeats 4000000 in
theorem wakes14_any (w : World) : Calls Try.prog 10 #[] w fun e w' => e = .returned (.bool true) ∧ Mod [] w w' := by
  go_enter Try.func10, Try.ntmps10
  go_wp2_with fail
  refine (next_w 0 0 2 1 2 0 _ (by omega) (by omega) (by decide +kernel)).mono ?_
  rintro e w1 ⟨rfl, m1⟩
  have M1 := Lib.hid m1
  clear m1
  go_wp2_with fail
  refine (of_w 3 1 _).mono ?_
  rintro e w2 ⟨rfl, m2⟩
  have A0 : Hid (w2.cell? ⟨w1.heap.size, 0, none⟩ = some (.int .u64 1)) := m2.cell (by go_cell) (by simp)
  have A1 : Hid (w2.cell? ⟨w1.heap.size, 1, none⟩ = some (.int .i64 2)) := m2.cell (by go_cell) (by simp)
  have M2 : Hid (Mod [] w w2) := M1.out.trans' ((Mod.ofBelow (by go_grown)).trans' m2)
  clear m2 M1
  go_wp2_with fail
  refine (next_w 3 1 2 3 2 0 _ (by omega) (by omega) (by decide +kernel)).mono ?_
  rintro e w3 ⟨rfl, m3⟩
  have A2 := Lib.hid (m3.cell A0.out (by simp))
  have A3 := Lib.hid (m3.cell A1.out (by simp))
  have M3 := Lib.hid (M2.out.trans' m3)
  clear m3 M2 A0 A1
  go_wp2_with fail
  refine (of_w 3 1 _).mono ?_
  rintro e w4 ⟨rfl, m4⟩
  have mm := (Mod.alloc [] w3 (.cells #[.int .u64 3, .int .i64 2] 24)).trans' m4
  have A4 := Lib.hid (mm.cell A2.out (by simp))
  have A5 := Lib.hid (mm.cell A3.out (by simp))
  have B4 : Hid (w4.cell? ⟨w3.heap.size, 0, none⟩ = some (.int .u64 3)) := m4.cell (by go_cell) (by simp)
  have B5 : Hid (w4.cell? ⟨w3.heap.size, 1, none⟩ = some (.int .i64 2)) := m4.cell (by go_cell) (by simp)
  have M4 := Lib.hid (M3.out.trans' mm)
  clear m4 mm M3 A2 A3
  go_wp2_with fail
  refine (next_w 3 1 1 4 1 0 _ (by omega) (by omega) (by decide +kernel)).mono ?_
  rintro e w5 ⟨rfl, m5⟩
  have A6 := Lib.hid (m5.cell A4.out (by simp))
  have A7 := Lib.hid (m5.cell A5.out (by simp))
  have B6 := Lib.hid (m5.cell B4.out (by simp))
  have B7 := Lib.hid (m5.cell B5.out (by simp))
  have M5 := Lib.hid (M4.out.trans' m5)
  clear m5 M4 A4 A5 B4 B5
  go_upto_region 4 with (fail)
  have mm := Mod.alloc [] w5 (.cells #[.int .u64 4, .int .i64 1] 24)
  go_rest []
  intro w6 m6
  have C0 : Hid (w6.cell? ⟨w5.heap.size, 0, none⟩ = some (.int .u64 4)) := m6.cell (by go_cell) (by simp)
  have C1 : Hid (w6.cell? ⟨w5.heap.size, 1, none⟩ = some (.int .i64 1)) := m6.cell (by go_cell) (by simp)
  have m7 := mm.trans' m6
  have A0 := Lib.hid (m7.cell A6.out (by simp))
  have A1 := Lib.hid (m7.cell A7.out (by simp))
  have B0 := Lib.hid (m7.cell B6.out (by simp))
  have B1 := Lib.hid (m7.cell B7.out (by simp))
  have M6 := Lib.hid (M5.out.trans' m7)
  clear A6 A7 B6 B7 m7 m6 mm M5
  go_takes (first | rd_load2 A0.out A1.out | rd_load2 B0.out B1.out | rd_load2 C0.out C1.out)
  go_one
  go_wp2_with fail
  refine (of_w 1 2 _).mono ?_
  rintro e w7 ⟨rfl, m7⟩
  go_wp2_with fail
  refine back_to (K1 := []) m7 (by simp) ?_
  have M7 := Lib.hid (M6.out.trans' m7)
  replace A0 := Lib.hid (m7.cell A0.out (by simp))
  replace A1 := Lib.hid (m7.cell A1.out (by simp))
  replace B0 := Lib.hid (m7.cell B0.out (by simp))
  replace B1 := Lib.hid (m7.cell B1.out (by simp))
  replace C0 := Lib.hid (m7.cell C0.out (by simp))
  replace C1 := Lib.hid (m7.cell C1.out (by simp))
  clear m7 M6
  go_takes (first | rd_load2 A0.out A1.out | rd_load2 B0.out B1.out | rd_load2 C0.out C1.out)
  go_one
  go_wp2_with fail
  refine (of_w 3 2 _).mono ?_
  rintro e w8 ⟨rfl, m8⟩
  go_wp2_with fail
  refine back_to (K1 := []) m8 (by simp) ?_
  have M8 := Lib.hid (M7.out.trans' m8)
  replace A0 := Lib.hid (m8.cell A0.out (by simp))
  replace A1 := Lib.hid (m8.cell A1.out (by simp))
  replace B0 := Lib.hid (m8.cell B0.out (by simp))
  replace B1 := Lib.hid (m8.cell B1.out (by simp))
  replace C0 := Lib.hid (m8.cell C0.out (by simp))
  replace C1 := Lib.hid (m8.cell C1.out (by simp))
  clear m8 M7
  go_takes (first | rd_load2 A0.out A1.out | rd_load2 B0.out B1.out | rd_load2 C0.out C1.out)
  go_one
  go_wp2_with fail
  refine (of_w 4 1 _).mono ?_
  rintro e w9 ⟨rfl, m9⟩
  go_wp2_with fail
  refine back_to (K1 := []) m9 (by simp) ?_
  have M9 := Lib.hid (M8.out.trans' m9)
  replace A0 := Lib.hid (m9.cell A0.out (by simp))
  replace A1 := Lib.hid (m9.cell A1.out (by simp))
  replace B0 := Lib.hid (m9.cell B0.out (by simp))
  replace B1 := Lib.hid (m9.cell B1.out (by simp))
  replace C0 := Lib.hid (m9.cell C0.out (by simp))
  replace C1 := Lib.hid (m9.cell C1.out (by simp))
  clear m9 M8
  go_takes (first | rd_load2 A0.out A1.out | rd_load2 B0.out B1.out | rd_load2 C0.out C1.out)
  go_one
  go_wp2_with fail
  refine (of_w 1 2 _).mono ?_
  rintro e w10 ⟨rfl, m10⟩
  go_wp2_with fail
  refine back_to (K1 := []) m10 (by simp) ?_
  have M10 := Lib.hid (M9.out.trans' m10)
  replace A0 := Lib.hid (m10.cell A0.out (by simp))
  replace A1 := Lib.hid (m10.cell A1.out (by simp))
  replace B0 := Lib.hid (m10.cell B0.out (by simp))
  replace B1 := Lib.hid (m10.cell B1.out (by simp))
  replace C0 := Lib.hid (m10.cell C0.out (by simp))
  replace C1 := Lib.hid (m10.cell C1.out (by simp))
  clear m10 M9
  go_takes (first | rd_load2 A0.out A1.out | rd_load2 B0.out B1.out | rd_load2 C0.out C1.out)
  go_one
  go_wp2_with fail
  refine (of_w 2 0 _).mono ?_
  rintro e w11 ⟨rfl, m11⟩
  go_wp2_with fail
  refine back_to (K1 := []) m11 (by simp) ?_
  have M11 := Lib.hid (M10.out.trans' m11)
  replace A0 := Lib.hid (m11.cell A0.out (by simp))
  replace A1 := Lib.hid (m11.cell A1.out (by simp))
  replace B0 := Lib.hid (m11.cell B0.out (by simp))
  replace B1 := Lib.hid (m11.cell B1.out (by simp))
  replace C0 := Lib.hid (m11.cell C0.out (by simp))
  replace C1 := Lib.hid (m11.cell C1.out (by simp))
  clear m11 M10
  go_takes (first | rd_load2 A0.out A1.out | rd_load2 B0.out B1.out | rd_load2 C0.out C1.out)
  go_one
  go_wp2_with fail
  refine (less_w 1 2 2 0 true _ (by decide +kernel)).mono ?_
  rintro e w12 ⟨rfl, m12⟩
  go_wp2_with fail
  refine back_to (K1 := []) m12 (by simp) ?_
  have M12 := Lib.hid (M11.out.trans' m12)
  replace A0 := Lib.hid (m12.cell A0.out (by simp))
  replace A1 := Lib.hid (m12.cell A1.out (by simp))
  replace B0 := Lib.hid (m12.cell B0.out (by simp))
  replace B1 := Lib.hid (m12.cell B1.out (by simp))
  replace C0 := Lib.hid (m12.cell C0.out (by simp))
  replace C1 := Lib.hid (m12.cell C1.out (by simp))
  clear m12 M11
  go_takes (first | rd_load2 A0.out A1.out | rd_load2 B0.out B1.out | rd_load2 C0.out C1.out)
  go_one
  go_wp2_with fail
  refine (of_w 2 0 _).mono ?_
  rintro e w13 ⟨rfl, m13⟩
  go_wp2_with fail
  refine back_to (K1 := []) m13 (by simp) ?_
  have M13 := Lib.hid (M12.out.trans' m13)
  replace A0 := Lib.hid (m13.cell A0.out (by simp))
  replace A1 := Lib.hid (m13.cell A1.out (by simp))
  replace B0 := Lib.hid (m13.cell B0.out (by simp))
  replace B1 := Lib.hid (m13.cell B1.out (by simp))
  replace C0 := Lib.hid (m13.cell C0.out (by simp))
  replace C1 := Lib.hid (m13.cell C1.out (by simp))
  clear m13 M12
  go_takes (first | rd_load2 A0.out A1.out | rd_load2 B0.out B1.out | rd_load2 C0.out C1.out)
  go_one
  go_wp2_with fail
  refine (of_w 2 0 _).mono ?_
  rintro e w14 ⟨rfl, m14⟩
  go_wp2_with fail
  refine back_to (K1 := []) m14 (by simp) ?_
  have M14 := Lib.hid (M13.out.trans' m14)
  replace A0 := Lib.hid (m14.cell A0.out (by simp))
  replace A1 := Lib.hid (m14.cell A1.out (by simp))
  replace B0 := Lib.hid (m14.cell B0.out (by simp))
  replace B1 := Lib.hid (m14.cell B1.out (by simp))
  replace C0 := Lib.hid (m14.cell C0.out (by simp))
  replace C1 := Lib.hid (m14.cell C1.out (by simp))
  clear m14 M13
  go_takes (first | rd_load2 A0.out A1.out | rd_load2 B0.out B1.out | rd_load2 C0.out C1.out)
  go_one
  go_wp2_with fail
  refine (less_w 2 0 2 0 false _ (by decide +kernel)).mono ?_
  rintro e w15 ⟨rfl, m15⟩
  go_wp2_with fail
  refine back_to (K1 := []) m15 (by simp) ?_
  have M15 := Lib.hid (M14.out.trans' m15)
  replace A0 := Lib.hid (m15.cell A0.out (by simp))
  replace A1 := Lib.hid (m15.cell A1.out (by simp))
  replace B0 := Lib.hid (m15.cell B0.out (by simp))
  replace B1 := Lib.hid (m15.cell B1.out (by simp))
  replace C0 := Lib.hid (m15.cell C0.out (by simp))
  replace C1 := Lib.hid (m15.cell C1.out (by simp))
  clear m15 M14
  go_takes (first | rd_load2 A0.out A1.out | rd_load2 B0.out B1.out | rd_load2 C0.out C1.out)
  go_one
  go_wp2_with fail
  refine (of_w 1 1 _).mono ?_
  rintro e w16 ⟨rfl, m16⟩
  go_wp2_with fail
  refine back_to (K1 := []) m16 (by simp) ?_
  have M16 := Lib.hid (M15.out.trans' m16)
  replace A0 := Lib.hid (m16.cell A0.out (by simp))
  replace A1 := Lib.hid (m16.cell A1.out (by simp))
  replace B0 := Lib.hid (m16.cell B0.out (by simp))
  replace B1 := Lib.hid (m16.cell B1.out (by simp))
  replace C0 := Lib.hid (m16.cell C0.out (by simp))
  replace C1 := Lib.hid (m16.cell C1.out (by simp))
  clear m16 M15
  go_takes (first | rd_load2 A0.out A1.out | rd_load2 B0.out B1.out | rd_load2 C0.out C1.out)
  go_one
  go_wp2_with fail
  refine (of_w 1 2 _).mono ?_
  rintro e w17 ⟨rfl, m17⟩
  go_wp2_with fail
  refine back_to (K1 := []) m17 (by simp) ?_
  have M17 := Lib.hid (M16.out.trans' m17)
  replace A0 := Lib.hid (m17.cell A0.out (by simp))
  replace A1 := Lib.hid (m17.cell A1.out (by simp))
  replace B0 := Lib.hid (m17.cell B0.out (by simp))
  replace B1 := Lib.hid (m17.cell B1.out (by simp))
  replace C0 := Lib.hid (m17.cell C0.out (by simp))
  replace C1 := Lib.hid (m17.cell C1.out (by simp))
  clear m17 M16
  go_takes (first | rd_load2 A0.out A1.out | rd_load2 B0.out B1.out | rd_load2 C0.out C1.out)
  go_one
  go_wp2_with fail
  refine (of_w 1 0 _).mono ?_
  rintro e w18 ⟨rfl, m18⟩
  go_wp2_with fail
  refine back_to (K1 := []) m18 (by simp) ?_
  have M18 := Lib.hid (M17.out.trans' m18)
  replace A0 := Lib.hid (m18.cell A0.out (by simp))
  replace A1 := Lib.hid (m18.cell A1.out (by simp))
  replace B0 := Lib.hid (m18.cell B0.out (by simp))
  replace B1 := Lib.hid (m18.cell B1.out (by simp))
  replace C0 := Lib.hid (m18.cell C0.out (by simp))
  replace C1 := Lib.hid (m18.cell C1.out (by simp))
  clear m18 M17
  go_takes (first | rd_load2 A0.out A1.out | rd_load2 B0.out B1.out | rd_load2 C0.out C1.out)
  clear A0 A1 B0 B1 C0 C1
  go_one
  go_wp2_with fail
  refine back_to (K1 := []) (Mod.alloc _ _ _) (by simp) ?_
  have S18 : Hid (SeesB (w18.alloc (.cells #[.int .u64 1, .int .i64 1, .int .u64 1, .int .i64 2, .int .u64 1, .int .i64 0] 24)) (some ⟨w18.heap.size, 0, none⟩) [(1, 1), (1, 2), (1, 0)]) := by
    have hb := heap_alloc_new w18 (.cells #[.int .u64 1, .int .i64 1, .int .u64 1, .int .i64 2, .int .u64 1, .int .i64 0] 24)
    intro j hj
    refine ⟨_, _, rfl, ?_, ?_⟩ <;> rw [cell_of_block hb] <;> match j, hj with
      | 0, _ => rfl
      | 1, _ => rfl
      | 2, _ => rfl
  go_takes (fail)
  go_one
  go_wp2_with fail
  refine (max_any _ 3 3 [(1, 1), (1, 2), (1, 0)] _ rfl (by omega) S18.out).mono ?_
  rw [show maxK [(1, 1), (1, 2), (1, 0)] ([(1, 1), (1, 2), (1, 0)] : List (Int × Int)).length = (1, 2) by decide +kernel]
  unfold ballot
  rintro e w19 ⟨rfl, m19⟩
  have M19 := Lib.hid ((M18.out.trans' (Mod.alloc _ _ _)).trans' m19)
  go_wp2_with fail
  refine back_to (K1 := []) m19 (by simp) ?_
  clear m19 M18 S18
  go_takes (fail)
  go_one
  go_wp2_with fail
  refine (of_w 1 2 _).mono ?_
  rintro e w20 ⟨rfl, m20⟩
  have M20 := Lib.hid (M19.out.trans' m20)
  go_wp2_with fail
  refine back_to (K1 := []) m20 (by simp) ?_
  clear m20 M19
  go_takes (fail)
  go_one
  go_wp2_with fail
  refine (of_w 300 2 _).mono ?_
  rintro e w21 ⟨rfl, m21⟩
  have M21 := Lib.hid (M20.out.trans' m21)
  go_wp2_with fail
  refine back_to (K1 := []) m21 (by simp) ?_
  clear m21 M20
  go_takes (fail)
  go_one
  go_wp2_with fail
  refine (put_any none 0 0 300 2 [] _ rfl (OwnB.nil _) (by omega) (by omega) (by omega)).mono ?_
  rw [show ([] ++ enc7 300 ++ enc7 2 : List UInt8) = [172, 2, 2] by decide +kernel]
  rintro e w22 ⟨a22, n22, c22, rfl, h22, o22, m22, n22'⟩
  subst h22
  have M22 := Lib.hid (M21.out.trans' m22)
  have O22 := Lib.hid o22.sees
  go_wp2_with fail
  refine back_to (K1 := []) m22 (by simp) ?_
  clear o22 m22 n22' M21
  go_takes (first | rd_str O22.out | rd_eqs (decide_eq_true rfl))
  go_wp2
  go_ret
  exact ⟨rfl, M22.out⟩
end Go.Proofs.Ytodkjkfaaamlaaa
