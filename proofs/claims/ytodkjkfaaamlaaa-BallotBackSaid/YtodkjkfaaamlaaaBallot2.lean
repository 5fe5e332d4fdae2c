/- The walks of the ballot package: the next ballot; one that a law makes. -/
import Derived.Test.YtodkjkfaaamlaaaBallot
import Derived.Handy
namespace Go.Proofs.Ytodkjkfaaamlaaa
open Go Go.RowKit Go.Lib

theorem Mod.frozen {S : List Nat} {w w' : World} (h : Mod S w w') {p : Addr} (hb : p.block < w.heap.size) (hn : p.block ∉ S) : w'.frozen? p = w.frozen? p := by
  simp only [World.frozen?, h.block p.block hb hn]
theorem of_any (n r : Int) (w : World) : Calls Try.prog 14 #[.int .u64 n, .int .i64 r] w fun e w' => e = .returned (ballot n r) ∧ Mod [] w w' := by
  unfold ballot
  go_enter Try.func14, Try.ntmps14
  go_wp2
  go_returns
  exact ⟨rfl, .ofBelow (by go_grown)⟩

/-- A replica's next ballot, and the error. -/
def nextB (bN bR r : Int) : Int × Int × Int :=
  if r < 0 ∨ 7 ≤ r then (0, 0, 1)
  else if 0 < bN ∧ lessB bN bR bN r = true then (bN, r, 0)
  else if bN = 18446744073709551615 then (0, 0, 30)
  else (bN + 1, r, 0)
set_option maxHeartbeats 1000000 in
theorem next_any (bN bR r : Int) (w : World) (h0 : 0 ≤ bN) (h1 : bN ≤ 18446744073709551615) :
    Calls Try.prog 13 #[ballot bN bR, .int .i64 r] w fun e w' => e = .returned (.tuple #[ballot (nextB bN bR r).1 (nextB bN bR r).2.1, .int .i64 (nextB bN bR r).2.2]) ∧ Mod [] w w' := by
  have HN : Hid (nextB bN bR r = if r < 0 ∨ 7 ≤ r then (0, 0, 1)
    else if 0 < bN ∧ lessB bN bR bN r = true then (bN, r, 0)
    else if bN = 18446744073709551615 then (0, 0, 30)
    else (bN + 1, r, 0)) := rfl
  unfold ballot
  by_cases hr : r < 0
  · have hv := HN.out
    rw [if_pos (.inl hr)] at hv
    have HV := Lib.hid hv
    clear hv HN
    go_enter Try.func13, Try.ntmps13
    go_wp2
    go_returns
    rw [HV.out]
    exact ⟨rfl, .ofBelow (by go_grown)⟩
  by_cases hr7 : 7 ≤ r
  · have hv := HN.out
    rw [if_pos (.inr hr7)] at hv
    have HV := Lib.hid hv
    clear hv HN
    go_enter Try.func13, Try.ntmps13
    go_wp2
    go_returns
    rw [HV.out]
    exact ⟨rfl, .ofBelow (by go_grown)⟩
  have hv := HN.out
  rw [if_neg (by omega)] at hv
  clear HN
  by_cases hb : 0 < bN
  · by_cases hl : lessB bN bR bN r = true
    · rw [if_pos ⟨hb, hl⟩] at hv
      have HV := Lib.hid hv
      clear hv
      go_enter Try.func13, Try.ntmps13
      go_wp2_with fail
      refine (less_any bN bR bN r _).mono ?_
      rintro e w1 ⟨rfl, m1⟩
      rw [hl]
      have A0 : w1.cell? ⟨w.heap.size + 1 + 1, 0, none⟩ = some (.int .u64 bN) := m1.cell (by go_cell) (by simp)
      have A1 : w1.cell? ⟨w.heap.size + 1 + 1, 1, none⟩ = some (.int .i64 r) := m1.cell (by go_cell) (by simp)
      have B0 : w1.cell? ⟨w.heap.size, 0, none⟩ = some (.int .u64 bN) := m1.cell (by go_cell) (by simp)
      have R0 : w1.cell? ⟨w.heap.size + 1, 0, none⟩ = some (.int .u64 0) := m1.cell (by go_cell) (by simp)
      have R1 : w1.cell? ⟨w.heap.size + 1, 1, none⟩ = some (.int .i64 0) := m1.cell (by go_cell) (by simp)
      have F0 : w1.frozen? ⟨w.heap.size + 1, 0, none⟩ = false := by rw [m1.frozen (by simp) (by simp)]; go_simp
      have F1 : w1.frozen? ⟨w.heap.size + 1, 1, none⟩ = false := by rw [m1.frozen (by simp) (by simp)]; go_simp
      have M1 : Hid (Mod [] w w1) := (Mod.ofBelow (by go_grown)).trans' m1
      clear m1
      go_wp2
      ((try simp only [Exit.inBlock, Exit.then]); refine bodyPost_ret (by simp [results, Try.results13, go_sem, *]; try rfl) rfl ?_)
      rw [HV.out]
      exact ⟨rfl, Mod.setCell' _ _ _ _ (Mod.setCell' _ _ _ _ M1.out (by simp)) (by simp)⟩
    · rw [if_neg (by simp [hl])] at hv
      by_cases hm : bN = 18446744073709551615
      · subst hm
        rw [if_pos rfl] at hv
        have HV := Lib.hid hv
        have hl' : lessB 18446744073709551615 bR 18446744073709551615 r = false := by simpa using hl
        clear hv
        go_enter Try.func13, Try.ntmps13
        go_wp2_with fail
        refine (less_any 18446744073709551615 bR 18446744073709551615 r _).mono ?_
        rintro e w1 ⟨rfl, m1⟩
        rw [hl']
        have A0 : w1.cell? ⟨w.heap.size + 1 + 1, 0, none⟩ = some (.int .u64 18446744073709551615) := m1.cell (by go_cell) (by simp)
        have A1 : w1.cell? ⟨w.heap.size + 1 + 1, 1, none⟩ = some (.int .i64 r) := m1.cell (by go_cell) (by simp)
        have B0 : w1.cell? ⟨w.heap.size, 0, none⟩ = some (.int .u64 18446744073709551615) := m1.cell (by go_cell) (by simp)
        have R0 : w1.cell? ⟨w.heap.size + 1, 0, none⟩ = some (.int .u64 0) := m1.cell (by go_cell) (by simp)
        have R1 : w1.cell? ⟨w.heap.size + 1, 1, none⟩ = some (.int .i64 0) := m1.cell (by go_cell) (by simp)
        have F0 : w1.frozen? ⟨w.heap.size + 1, 0, none⟩ = false := by rw [m1.frozen (by simp) (by simp)]; go_simp
        have F1 : w1.frozen? ⟨w.heap.size + 1, 1, none⟩ = false := by rw [m1.frozen (by simp) (by simp)]; go_simp
        have M1 : Hid (Mod [] w w1) := (Mod.ofBelow (by go_grown)).trans' m1
        clear m1
        go_wp2
        ((try simp only [Exit.inBlock, Exit.then]); refine bodyPost_ret (by simp [results, Try.results13, go_sem, *]; try rfl) rfl ?_)
        rw [HV.out]
        exact ⟨rfl, Mod.setCell' _ _ _ _ (Mod.setCell' _ _ _ _ M1.out (by simp)) (by simp)⟩
      · rw [if_neg hm] at hv
        have HV := Lib.hid hv
        have hl' : lessB bN bR bN r = false := by simpa using hl
        have hw : IntKind.u64.wrap (bN + 1) = bN + 1 := IntWalk.u64_in _ (by omega)
        have hz : (bN + 1 == 0) = false := by simp; omega
        clear hv
        go_enter Try.func13, Try.ntmps13
        go_wp2_with fail
        refine (less_any bN bR bN r _).mono ?_
        rintro e w1 ⟨rfl, m1⟩
        rw [hl']
        have A0 : w1.cell? ⟨w.heap.size + 1 + 1, 0, none⟩ = some (.int .u64 bN) := m1.cell (by go_cell) (by simp)
        have A1 : w1.cell? ⟨w.heap.size + 1 + 1, 1, none⟩ = some (.int .i64 r) := m1.cell (by go_cell) (by simp)
        have B0 : w1.cell? ⟨w.heap.size, 0, none⟩ = some (.int .u64 bN) := m1.cell (by go_cell) (by simp)
        have R0 : w1.cell? ⟨w.heap.size + 1, 0, none⟩ = some (.int .u64 0) := m1.cell (by go_cell) (by simp)
        have R1 : w1.cell? ⟨w.heap.size + 1, 1, none⟩ = some (.int .i64 0) := m1.cell (by go_cell) (by simp)
        have F0 : w1.frozen? ⟨w.heap.size + 1, 0, none⟩ = false := by rw [m1.frozen (by simp) (by simp)]; go_simp
        have F1 : w1.frozen? ⟨w.heap.size + 1, 1, none⟩ = false := by rw [m1.frozen (by simp) (by simp)]; go_simp
        have M1 : Hid (Mod [] w w1) := (Mod.ofBelow (by go_grown)).trans' m1
        clear m1
        go_wp2
        ((try simp only [Exit.inBlock, Exit.then]); refine bodyPost_ret (by simp [results, Try.results13, go_sem, *]; try rfl) rfl ?_)
        rw [HV.out]
        exact ⟨rfl, Mod.setCell' _ _ _ _ (Mod.setCell' _ _ _ _ M1.out (by simp)) (by simp)⟩
  · have hb0 : bN = 0 := by omega
    subst hb0
    rw [if_neg (by simp), if_neg (by omega)] at hv
    have HV := Lib.hid hv
    clear hv
    have hw : IntKind.u64.wrap (0 + 1) = 1 := by decide
    go_enter Try.func13, Try.ntmps13
    go_wp2
    go_returns
    rw [HV.out]
    exact ⟨rfl, .ofBelow (by go_grown)⟩
end Go.Proofs.Ytodkjkfaaamlaaa
