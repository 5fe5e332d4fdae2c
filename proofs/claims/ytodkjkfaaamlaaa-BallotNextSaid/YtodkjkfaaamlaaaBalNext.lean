/- The walk of BallotNext. -/
import Derived.Test.YtodkjkfaaamlaaaBalWakes
namespace Go.Proofs.Ytodkjkfaaamlaaa
open Go Go.RowKit Go.Lib

theorem nextB_cases (N R i : Int) (h0 : 0 ≤ N) (h1 : N ≤ 18446744073709551615) (hi : 0 ≤ i) (hi7 : i < 7) :
    (nextB N R i = (0, 0, 30) ∧ N = 18446744073709551615) ∨
    ∃ nx, nextB N R i = (nx, i, 0) ∧ ¬ nx = 0 ∧ lessB N R nx i = true ∧ ∀ n, 0 ≤ n → ¬ n = 0 → lessB N R n i = true → lessB n i nx i = false := by
  unfold nextB
  rw [if_neg (by omega)]
  by_cases h : 0 < N ∧ lessB N R N i = true
  · rw [if_pos h]
    refine .inr ⟨N, rfl, by omega, h.2, fun n h3 h4 h5 => ?_⟩
    simp only [lessB, decide_eq_true_eq, decide_eq_false_iff_not] at *
    omega
  · rw [if_neg h]
    by_cases hm : N = 18446744073709551615
    · rw [if_pos hm]; exact .inl ⟨rfl, hm⟩
    · rw [if_neg hm]
      refine .inr ⟨N + 1, rfl, by omega, ?_, fun n h3 h4 h5 => ?_⟩
      · simp only [lessB, decide_eq_true_eq]; omega
      · have h' : ¬ (0 < N ∧ R < i) := fun hh => h ⟨hh.1, by simp [lessB, hh.2]⟩
        simp only [lessB, decide_eq_true_eq, decide_eq_false_iff_not] at h5 ⊢
        omega

set_option maxRecDepth 100000 in
set_option maxHeartbeats 4000000 in
theorem ballotNext_any (N R : Int) (r q n : Nat) (w : World) (hN : 0 ≤ N) (hN2 : N ≤ 18446744073709551615) (hr : r ≤ 255) (hq : q ≤ 255) :
    Calls Try.prog 4 #[.agg #[.int .u64 N, .int .i64 R], .int .u8 (r : Int), .int .u8 (q : Int), .int .u64 (n : Int)] w fun e w' => e = .returned (.bool true) ∧ Mod [] w w' := by
  have ci := nextB_cases N R ((r : Int) % 7) hN hN2 (by omega) (by omega)
  have ck := nextB_cases N R ((q : Int) % 7) hN hN2 (by omega) (by omega)
  rcases ci with ⟨ci, rfl⟩ | ⟨nx, ci, hx0, hx1, hx2⟩
  · -- none is left
    obtain ⟨yn, yr, ye, cy⟩ : ∃ yn yr ye, nextB 18446744073709551615 R ((q : Int) % 7) = (yn, yr, ye) := ⟨_, _, _, rfl⟩
    have CI := Lib.hid ci
    have CY := Lib.hid cy
    clear ci cy ck
    go_enter Try.func4, Try.ntmps4
    go_wp2_with fail
    refine (next_w _ _ _ _ _ _ _ (by omega) (by omega) CI.out).mono ?_
    rintro e w1 ⟨rfl, m1⟩
    have A0 : Hid (w1.cell? ⟨w.heap.size, 0, none⟩ = some (.int .u64 18446744073709551615)) := m1.cell (by go_cell) (by simp)
    have A1 : Hid (w1.cell? ⟨w.heap.size, 1, none⟩ = some (.int .i64 R)) := m1.cell (by go_cell) (by simp)
    have M1 := Lib.hid ((Mod.alloc [] w (.cells #[.int .u64 18446744073709551615, .int .i64 R] 24)).trans' m1)
    clear m1
    have a0 := A0.out
    have a1 := A1.out
    have hl := World.block_lt_of_cell? w1 _ a0
    go_wp2_with fail
    refine (next_w _ _ _ _ _ _ _ (by omega) (by omega) CY.out).mono ?_
    rintro e w2 ⟨rfl, m2⟩
    have m2' := (Mod.alloc [] w1 (.cells #[.int .u64 0, .int .i64 0] 24)).trans' m2
    have B0 := Lib.hid (m2'.cell a0 (by simp))
    have B1 := Lib.hid (m2'.cell a1 (by simp))
    have M2 := Lib.hid (M1.out.trans' m2')
    clear m2 m2' a0 a1 A0 A1 M1 hl
    have b0 := B0.out
    have b1 := B1.out
    have hl2 := World.block_lt_of_cell? w2 _ b0
    go_wp2_with fail
    refine (wakes14_any _).mono ?_
    rintro e w3 ⟨rfl, m3⟩
    have M3 := Lib.hid ((M2.out.trans' (Mod.alloc [] _ _)).trans' m3)
    clear m3 M2
    go_wp2
    go_ret
    exact ⟨rfl, M3.out⟩
  rcases ck with ⟨ck, rfl⟩ | ⟨ny, ck, hy0, hy1, hy2⟩
  · have CI := Lib.hid ci
    have CY := Lib.hid ck
    clear ci ck hx0 hx1 hx2
    go_enter Try.func4, Try.ntmps4
    go_wp2_with fail
    refine (next_w _ _ _ _ _ _ _ (by omega) (by omega) CI.out).mono ?_
    rintro e w1 ⟨rfl, m1⟩
    have A0 : Hid (w1.cell? ⟨w.heap.size, 0, none⟩ = some (.int .u64 18446744073709551615)) := m1.cell (by go_cell) (by simp)
    have A1 : Hid (w1.cell? ⟨w.heap.size, 1, none⟩ = some (.int .i64 R)) := m1.cell (by go_cell) (by simp)
    have M1 := Lib.hid ((Mod.alloc [] w (.cells #[.int .u64 18446744073709551615, .int .i64 R] 24)).trans' m1)
    clear m1
    have a0 := A0.out
    have a1 := A1.out
    have hl := World.block_lt_of_cell? w1 _ a0
    go_wp2_with fail
    refine (next_w _ _ _ _ _ _ _ (by omega) (by omega) CY.out).mono ?_
    rintro e w2 ⟨rfl, m2⟩
    have m2' := (Mod.alloc [] w1 (.cells #[.int .u64 nx, .int .i64 ((r : Int) % 7)] 24)).trans' m2
    have B0 := Lib.hid (m2'.cell a0 (by simp))
    have B1 := Lib.hid (m2'.cell a1 (by simp))
    have M2 := Lib.hid (M1.out.trans' m2')
    clear m2 m2' a0 a1 A0 A1 M1 hl
    have b0 := B0.out
    have b1 := B1.out
    have hl2 := World.block_lt_of_cell? w2 _ b0
    go_wp2_with fail
    refine (wakes14_any _).mono ?_
    rintro e w3 ⟨rfl, m3⟩
    have M3 := Lib.hid ((M2.out.trans' (Mod.alloc [] _ _)).trans' m3)
    clear m3 M2
    go_wp2
    go_ret
    exact ⟨rfl, M3.out⟩
  have CI := Lib.hid ci
  have CY := Lib.hid ck
  have HX := Lib.hid (And.intro hx1 hx2)
  clear ci ck hx1 hx2 hy0 hy1 hy2
  go_enter Try.func4, Try.ntmps4
  go_wp2_with fail
  generalize (r : Int) % 7 = i at CI HX ⊢
  generalize (q : Int) % 7 = k at CY ⊢
  refine (next_w _ _ _ _ _ _ _ (by omega) (by omega) CI.out).mono ?_
  rintro e w1 ⟨rfl, m1⟩
  have A0 : Hid (w1.cell? ⟨w.heap.size, 0, none⟩ = some (.int .u64 N)) := m1.cell (by go_cell) (by simp)
  have A1 : Hid (w1.cell? ⟨w.heap.size, 1, none⟩ = some (.int .i64 R)) := m1.cell (by go_cell) (by simp)
  have M1 := Lib.hid ((Mod.alloc [] w (.cells #[.int .u64 N, .int .i64 R] 24)).trans' m1)
  clear m1
  have a0 := A0.out
  have a1 := A1.out
  have hl := World.block_lt_of_cell? w1 _ a0
  go_wp2_with fail
  refine (next_w _ _ _ _ _ _ _ (by omega) (by omega) CY.out).mono ?_
  rintro e w2 ⟨rfl, m2⟩
  have m2' := (Mod.alloc [] w1 (.cells #[.int .u64 nx, .int .i64 i] 24)).trans' m2
  have B0 := Lib.hid (m2'.cell a0 (by simp))
  have B1 := Lib.hid (m2'.cell a1 (by simp))
  have X0 : Hid (w2.cell? ⟨w1.heap.size, 0, none⟩ = some (.int .u64 nx)) := m2.cell (by go_cell) (by simp)
  have X1 : Hid (w2.cell? ⟨w1.heap.size, 1, none⟩ = some (.int .i64 i)) := m2.cell (by go_cell) (by simp)
  have M2 := Lib.hid (M1.out.trans' m2')
  clear m2 m2' a0 a1 A0 A1 M1 hl
  have b0 := B0.out
  have b1 := B1.out
  have hl2 := World.block_lt_of_cell? w2 _ b0
  have x0 := X0.out
  have x1 := X1.out
  have hl3 := World.block_lt_of_cell? w2 _ x0
  go_wp2_with fail
  refine (less_w _ _ _ _ true _ HX.out.1).mono ?_
  rintro e w3 ⟨rfl, m3⟩
  have m3' := (Mod.alloc [] w2 (.cells #[.int .u64 ny, .int .i64 k] 24)).trans' m3
  have C0 := Lib.hid (m3'.cell b0 (by simp))
  have C1 := Lib.hid (m3'.cell b1 (by simp))
  have Z0 := Lib.hid (m3'.cell x0 (by simp))
  have Z1 := Lib.hid (m3'.cell x1 (by simp))
  have Y0 : Hid (w3.cell? ⟨w2.heap.size, 0, none⟩ = some (.int .u64 ny)) := m3.cell (by go_cell) (by simp)
  have Y1 : Hid (w3.cell? ⟨w2.heap.size, 1, none⟩ = some (.int .i64 k)) := m3.cell (by go_cell) (by simp)
  have M3 := Lib.hid (M2.out.trans' m3')
  clear m3 m3' b0 b1 x0 x1 hl2 hl3 B0 B1 X0 X1 M2
  by_cases hik : i = k
  · subst hik
    have c0 := C0.out
    have c1 := C1.out
    have z0 := Z0.out
    have z1 := Z1.out
    have hl2 := World.block_lt_of_cell? w3 _ c0
    have hl3 := World.block_lt_of_cell? w3 _ z0
    go_wp2_with fail
    refine (of_w _ _ _).mono ?_
    rintro e w4 ⟨rfl, m4⟩
    have D0 := Lib.hid (m4.cell c0 (by simp))
    have D1 := Lib.hid (m4.cell c1 (by simp))
    have E0 := Lib.hid (m4.cell z0 (by simp))
    have E1 := Lib.hid (m4.cell z1 (by simp))
    have M4 := Lib.hid (M3.out.trans' m4)
    clear m4 c0 c1 z0 z1 hl2 hl3 C0 C1 Z0 Z1 M3
    have d0 := D0.out
    have d1 := D1.out
    have e0 := E0.out
    have e1 := E1.out
    have hl2 := World.block_lt_of_cell? w4 _ d0
    have hl3 := World.block_lt_of_cell? w4 _ e0
    by_cases hn : (n : Int) = 0
    · go_wp2_with fail
      refine (wakes14_any _).mono ?_
      rintro e w5 ⟨rfl, m5⟩
      have M5 := Lib.hid ((M4.out.trans' (Mod.alloc [] _ _)).trans' m5)
      clear m5 M4
      go_wp2
      go_ret
      exact ⟨rfl, M5.out⟩
    · cases hb : lessB N R n i with
      | false =>
        go_wp2_with fail
        refine (less_w _ _ _ _ false _ hb).mono ?_
        rintro e w5 ⟨rfl, m5⟩
        have M5 := Lib.hid ((M4.out.trans' (Mod.alloc [] _ _)).trans' m5)
        clear m5 M4
        go_wp2_with fail
        refine (wakes14_any _).mono ?_
        rintro e w6 ⟨rfl, m6⟩
        have M6 := Lib.hid (M5.out.trans' m6)
        clear m6 M5
        go_wp2
        go_ret
        exact ⟨rfl, M6.out⟩
      | true =>
        have hlast := Lib.hid (HX.out.2 n (by omega) hn hb)
        go_wp2_with fail
        refine (less_w _ _ _ _ true _ hb).mono ?_
        rintro e w5 ⟨rfl, m5⟩
        have mm := (Mod.alloc [] w4 (.cells #[.int .u64 (n : Int), .int .i64 i] 24)).trans' m5
        have M5 := Lib.hid (M4.out.trans' mm)
        have f0 : w5.cell? ⟨w4.heap.size, 0, none⟩ = some (.int .u64 (n : Int)) := m5.cell (by go_cell) (by simp)
        have f1 : w5.cell? ⟨w4.heap.size, 1, none⟩ = some (.int .i64 i) := m5.cell (by go_cell) (by simp)
        have g0 := mm.cell e0 (by simp)
        have g1 := mm.cell e1 (by simp)
        clear m5 mm M4 d0 d1 e0 e1 hl2 hl3
        go_wp2_with fail
        refine (less_w _ _ _ _ false _ hlast.out).mono ?_
        rintro e w6 ⟨rfl, m6⟩
        have M6 := Lib.hid (M5.out.trans' m6)
        clear m6 M5 f0 f1 g0 g1
        go_wp2_with fail
        refine (wakes14_any _).mono ?_
        rintro e w7 ⟨rfl, m7⟩
        have M7 := Lib.hid (M6.out.trans' m7)
        clear m7 M6
        go_wp2
        go_ret
        exact ⟨rfl, M7.out⟩
  · have c0 := C0.out
    have c1 := C1.out
    have z0 := Z0.out
    have z1 := Z1.out
    have y0 := Y0.out
    have y1 := Y1.out
    have hl2 := World.block_lt_of_cell? w3 _ c0
    have hl3 := World.block_lt_of_cell? w3 _ z0
    go_wp2_with fail
    refine (of_w _ _ _).mono ?_
    rintro e w4 ⟨rfl, m4⟩
    have D0 := Lib.hid (m4.cell c0 (by simp))
    have D1 := Lib.hid (m4.cell c1 (by simp))
    have E0 := Lib.hid (m4.cell z0 (by simp))
    have E1 := Lib.hid (m4.cell z1 (by simp))
    have M4 := Lib.hid (M3.out.trans' m4)
    clear m4 c0 c1 z0 z1 y0 y1 hl2 hl3 C0 C1 Z0 Z1 M3
    have d0 := D0.out
    have d1 := D1.out
    have e0 := E0.out
    have e1 := E1.out
    have hl2 := World.block_lt_of_cell? w4 _ d0
    have hl3 := World.block_lt_of_cell? w4 _ e0
    by_cases hn : (n : Int) = 0
    · go_wp2_with fail
      refine (wakes14_any _).mono ?_
      rintro e w5 ⟨rfl, m5⟩
      have M5 := Lib.hid ((M4.out.trans' (Mod.alloc [] _ _)).trans' m5)
      clear m5 M4
      go_wp2
      go_ret
      exact ⟨rfl, M5.out⟩
    · cases hb : lessB N R n i with
      | false =>
        go_wp2_with fail
        refine (less_w _ _ _ _ false _ hb).mono ?_
        rintro e w5 ⟨rfl, m5⟩
        have M5 := Lib.hid ((M4.out.trans' (Mod.alloc [] _ _)).trans' m5)
        clear m5 M4
        go_wp2_with fail
        refine (wakes14_any _).mono ?_
        rintro e w6 ⟨rfl, m6⟩
        have M6 := Lib.hid (M5.out.trans' m6)
        clear m6 M5
        go_wp2
        go_ret
        exact ⟨rfl, M6.out⟩
      | true =>
        have hlast := Lib.hid (HX.out.2 n (by omega) hn hb)
        go_wp2_with fail
        refine (less_w _ _ _ _ true _ hb).mono ?_
        rintro e w5 ⟨rfl, m5⟩
        have mm := (Mod.alloc [] w4 (.cells #[.int .u64 (n : Int), .int .i64 i] 24)).trans' m5
        have M5 := Lib.hid (M4.out.trans' mm)
        have f0 : w5.cell? ⟨w4.heap.size, 0, none⟩ = some (.int .u64 (n : Int)) := m5.cell (by go_cell) (by simp)
        have f1 : w5.cell? ⟨w4.heap.size, 1, none⟩ = some (.int .i64 i) := m5.cell (by go_cell) (by simp)
        have g0 := mm.cell e0 (by simp)
        have g1 := mm.cell e1 (by simp)
        clear m5 mm M4 d0 d1 e0 e1 hl2 hl3
        go_wp2_with fail
        refine (less_w _ _ _ _ false _ hlast.out).mono ?_
        rintro e w6 ⟨rfl, m6⟩
        have M6 := Lib.hid (M5.out.trans' m6)
        clear m6 M5 f0 f1 g0 g1
        go_wp2_with fail
        refine (wakes14_any _).mono ?_
        rintro e w7 ⟨rfl, m7⟩
        have M7 := Lib.hid (M6.out.trans' m7)
        clear m7 M6
        go_wp2
        go_ret
        exact ⟨rfl, M7.out⟩
end Go.Proofs.Ytodkjkfaaamlaaa
