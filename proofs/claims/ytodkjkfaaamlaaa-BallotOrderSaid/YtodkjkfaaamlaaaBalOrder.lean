/- The walk of BallotOrder. -/
import Derived.Test.YtodkjkfaaamlaaaBalWakes
namespace Go.Proofs.Ytodkjkfaaamlaaa
open Go Go.RowKit Go.Lib

/-- What the loop has found: whether the greatest is one of the first k. -/
def thereB (l : List (Int × Int)) (m : Int × Int) (k : Nat) : Bool := (decide (l.length = 0) && decide (m = (0, 0))) || (l.take k).any (fun x => decide (x = m))

theorem lessB_trans {aN aR bN bR cN cR : Int} (h : lessB aN aR bN bR = true) (k : lessB bN bR cN cR = true) : lessB aN aR cN cR = true := by
  simp only [lessB, decide_eq_true_eq] at *
  omega

theorem lessB_total {aN aR bN bR : Int} (h : lessB aN aR bN bR = true) : lessB bN bR aN aR = false := by
  simp only [lessB, decide_eq_true_eq, decide_eq_false_iff_not] at *
  omega
theorem maxK_spec (l : List (Int × Int)) : ∀ k, 0 < k → k ≤ l.length → (∃ j, j < k ∧ l.getD j (0, 0) = maxK l k) ∧ ∀ j, j < k → lessB (maxK l k).1 (maxK l k).2 (l.getD j (0, 0)).1 (l.getD j (0, 0)).2 = false
  | 0, h, _ => absurd h (by omega)
  | k + 1, _, hk => by
    have hself : ∀ p : Int × Int, lessB p.1 p.2 p.1 p.2 = false := fun p => by simp [lessB]
    by_cases h0 : k = 0
    · subst h0
      have e : maxK l 1 = l.getD 0 (0, 0) := by show (if _ then _ else _) = _; rw [if_pos (.inl rfl)]
      rw [e]
      refine ⟨⟨0, by omega, rfl⟩, fun j hj => ?_⟩
      obtain rfl : j = 0 := by omega
      exact hself _
    · obtain ⟨⟨j0, hj0, e0⟩, hall⟩ := maxK_spec l k (by omega) (by omega)
      by_cases hl : lessB (maxK l k).1 (maxK l k).2 (l.getD k (0, 0)).1 (l.getD k (0, 0)).2 = true
      · have e : maxK l (k + 1) = l.getD k (0, 0) := by show (if _ then _ else _) = _; rw [if_pos (.inr hl)]
        rw [e]
        refine ⟨⟨k, by omega, rfl⟩, fun j hj => ?_⟩
        by_cases hjk : j = k
        · subst hjk; exact hself _
        · have h1 := hall j (by omega)
          cases h2 : lessB (l.getD k (0, 0)).1 (l.getD k (0, 0)).2 (l.getD j (0, 0)).1 (l.getD j (0, 0)).2 with
          | false => rfl
          | true => rw [lessB_trans hl h2] at h1; cases h1
      · have e : maxK l (k + 1) = maxK l k := by show (if _ then _ else _) = _; rw [if_neg (by simp [h0]; simpa using hl)]
        rw [e]
        refine ⟨⟨j0, by omega, e0⟩, fun j hj => ?_⟩
        by_cases hjk : j = k
        · subst hjk; simpa using hl
        · exact hall j (by omega)

set_option maxRecDepth 100000 in
set_option maxHeartbeats 4000000 in
theorem ballotOrder_any (aN aR bN bR cN cR : Int) (ao : Option Addr) (len cap : Nat) (l : List (Int × Int)) (w : World) (hl : l.length = len) (hlen : len ≤ 9223372036854775807) (hs : SeesB w ao l) :
    Calls Try.prog 3 #[.agg #[.int .u64 aN, .int .i64 aR], .agg #[.int .u64 bN, .int .i64 bR], .agg #[.int .u64 cN, .int .i64 cR], .slice ao len cap] w fun e w' => e = .returned (.bool true) ∧ Mod [] w w' := by
  subst hl
  have HS := Lib.hid hs
  clear hs
  by_cases hbig : 100 < l.length
  · go_enter Try.func3, Try.ntmps3
    go_wp2_with fail
    refine (wakes14_any _).mono ?_
    rintro e w3 ⟨rfl, m3⟩
    have M3 : Hid (Mod [] w w3) := (Mod.ofBelow (by go_grown)).trans' m3
    clear m3
    go_wp2
    go_ret
    exact ⟨rfl, M3.out⟩
  obtain ⟨x, hx0⟩ : ∃ x, lessB aN aR bN bR = x := ⟨_, rfl⟩
  obtain ⟨y, hy0⟩ : ∃ y, lessB bN bR aN aR = y := ⟨_, rfl⟩
  have HX := Lib.hid hx0
  have HY := Lib.hid hy0
  clear hx0 hy0
  go_enter Try.func3, Try.ntmps3
  go_upto_region 3 with (fail)
  refine rest_start [] 8 #[false, false, false, false, false, false, false, false] rfl (by kernel_rfl) (by kernel_rfl) ?_
  intro w1 m1
  have A0 : Hid (w1.cell? ⟨w.heap.size, 0, none⟩ = some (.int .u64 aN)) := m1.cell (by go_cell) (by simp)
  have A1 : Hid (w1.cell? ⟨w.heap.size, 1, none⟩ = some (.int .i64 aR)) := m1.cell (by go_cell) (by simp)
  have B0 : Hid (w1.cell? ⟨w.heap.size + 1, 0, none⟩ = some (.int .u64 bN)) := m1.cell (by go_cell) (by simp)
  have B1 : Hid (w1.cell? ⟨w.heap.size + 1, 1, none⟩ = some (.int .i64 bR)) := m1.cell (by go_cell) (by simp)
  have C0 : Hid (w1.cell? ⟨w.heap.size + 1 + 1, 0, none⟩ = some (.int .u64 cN)) := m1.cell (by go_cell) (by simp)
  have C1 : Hid (w1.cell? ⟨w.heap.size + 1 + 1, 1, none⟩ = some (.int .i64 cR)) := m1.cell (by go_cell) (by simp)
  have M1 : Hid (Mod [] w w1) := (Mod.ofBelow (by go_grown)).trans' m1
  clear m1
  refine rest_got (i := 0) (v := ?v1) rfl (by kernel_rfl) (by kernel_rfl) (by kernel_rfl) (fun _ _ _ h => h) (by rfl) ?y1 ?r1
  case y1 => ((intro w9' hm9'; have hc9' := Mod.cell hm9' A0.out (by first | exact List.not_mem_nil | (simp; omega)); have hd9' := Mod.cell hm9' A1.out (by first | exact List.not_mem_nil | (simp; omega)); clear hm9'; go_simp; with_reducible rfl))
  try simp only [Act.put, List.setIfInBounds_toArray, List.set_cons_zero, List.set_cons_succ]
  refine rest_got (i := 1) (v := ?v2) rfl (by kernel_rfl) (by kernel_rfl) (by kernel_rfl) (fun _ _ _ h => h) (by rfl) ?y2 ?r2
  case y2 => ((intro w9' hm9'; have hc9' := Mod.cell hm9' B0.out (by first | exact List.not_mem_nil | (simp; omega)); have hd9' := Mod.cell hm9' B1.out (by first | exact List.not_mem_nil | (simp; omega)); clear hm9'; go_simp; with_reducible rfl))
  try simp only [Act.put, List.setIfInBounds_toArray, List.set_cons_zero, List.set_cons_succ]
  refine rest_got (i := 3) (v := ?v3) rfl (by kernel_rfl) (by kernel_rfl) (by kernel_rfl) (fun _ _ _ h => h) (by rfl) ?y3 ?r3
  case y3 => ((intro w9' hm9'; have hc9' := Mod.cell hm9' B0.out (by first | exact List.not_mem_nil | (simp; omega)); have hd9' := Mod.cell hm9' B1.out (by first | exact List.not_mem_nil | (simp; omega)); clear hm9'; go_simp; with_reducible rfl))
  try simp only [Act.put, List.setIfInBounds_toArray, List.set_cons_zero, List.set_cons_succ]
  refine rest_got (i := 4) (v := ?v4) rfl (by kernel_rfl) (by kernel_rfl) (by kernel_rfl) (fun _ _ _ h => h) (by rfl) ?y4 ?r4
  case y4 => ((intro w9' hm9'; have hc9' := Mod.cell hm9' A0.out (by first | exact List.not_mem_nil | (simp; omega)); have hd9' := Mod.cell hm9' A1.out (by first | exact List.not_mem_nil | (simp; omega)); clear hm9'; go_simp; with_reducible rfl))
  try simp only [Act.put, List.setIfInBounds_toArray, List.set_cons_zero, List.set_cons_succ]
  refine rest_one (i := 2) (by kernel_rfl) rfl (by rfl) ?_
  go_wp2_with fail
  refine (less_w _ _ _ _ x _ HX.out).mono ?_
  rintro e w2 ⟨rfl, m2⟩
  go_wp2_with fail
  refine back_to (K1 := []) m2 (by simp) ?_
  replace A0 := Lib.hid (m2.cell A0.out (by simp))
  replace A1 := Lib.hid (m2.cell A1.out (by simp))
  replace B0 := Lib.hid (m2.cell B0.out (by simp))
  replace B1 := Lib.hid (m2.cell B1.out (by simp))
  replace C0 := Lib.hid (m2.cell C0.out (by simp))
  replace C1 := Lib.hid (m2.cell C1.out (by simp))
  have M2 := Lib.hid (M1.out.trans' m2)
  clear m2 M1
  
  refine rest_one (i := 5) (by kernel_rfl) rfl (by rfl) ?_
  go_wp2_with fail
  refine (less_w _ _ _ _ y _ HY.out).mono ?_
  rintro e w3 ⟨rfl, m3⟩
  go_wp2_with fail
  refine back_to (K1 := []) m3 (by simp) ?_
  replace A0 := Lib.hid (m3.cell A0.out (by simp))
  replace A1 := Lib.hid (m3.cell A1.out (by simp))
  replace B0 := Lib.hid (m3.cell B0.out (by simp))
  replace B1 := Lib.hid (m3.cell B1.out (by simp))
  replace C0 := Lib.hid (m3.cell C0.out (by simp))
  replace C1 := Lib.hid (m3.cell C1.out (by simp))
  have M3 := Lib.hid (M2.out.trans' m3)
  clear m3 M2
  refine rest_got (i := 6) (v := ?v5) rfl (by kernel_rfl) (by kernel_rfl) (by kernel_rfl) (fun _ _ _ h => h) (by rfl) ?y5 ?r5
  case y5 => (intro w9q hSwq; clear hSwq; go_simp; with_reducible rfl)
  try simp only [Act.put, List.setIfInBounds_toArray, List.set_cons_zero, List.set_cons_succ]
  refine rest_got (i := 7) (v := ?v6) rfl (by kernel_rfl) (by kernel_rfl) (by kernel_rfl) (fun _ _ _ h => h) (by rfl) ?y6 ?r6
  case y6 => (intro w9q hSwq; clear hSwq; go_simp; with_reducible rfl)
  try simp only [Act.put, List.setIfInBounds_toArray, List.set_cons_zero, List.set_cons_succ]
  refine rest_done (by kernel_rfl) ?_ _
  go_upto_region 4 with (fail)
  go_cut [51] from 24 (fun s wx => s = .bool false ∧ Mod [] w wx)
  case first =>
    clear HS
    by_cases hN : aN = bN
    · subst hN
      by_cases hR : aR = bR
      · subst hR
        have hx : lessB aN aR aN aR = false := by simp [lessB]
        have a0 := A0.out
        have a1 := A1.out
        have b0 := B0.out
        have b1 := B1.out
        have c0 := C0.out
        have c1 := C1.out
        obtain rfl : x = _ := HX.out.symm.trans hx
        obtain rfl : y = _ := HY.out.symm.trans hx
        go_wp2
        go_meet
        exact ⟨rfl, M3.out⟩
      · by_cases hlt : aR < bR
        · have hx : lessB aN aR aN bR = true := by simp [lessB, hlt]
          have hy : lessB aN bR aN aR = false := by simp [lessB]; omega
          have a0 := A0.out
          have a1 := A1.out
          have b0 := B0.out
          have b1 := B1.out
          have c0 := C0.out
          have c1 := C1.out
          obtain rfl : x = _ := HX.out.symm.trans hx
          obtain rfl : y = _ := HY.out.symm.trans hy
          cases hbc : lessB aN bR cN cR with
          | false =>
            go_wp2_with fail
            refine (less_w _ _ _ _ false _ hbc).mono ?_
            rintro e w4 ⟨rfl, m4⟩
            have M4 := Lib.hid (M3.out.trans' m4)
            clear m4 M3 a0 a1 b0 b1 c0 c1
            go_wp2
            go_meet
            exact ⟨rfl, M4.out⟩
          | true =>
            have hac := Lib.hid (lessB_trans hx hbc)
            go_wp2_with fail
            refine (less_w _ _ _ _ true _ hbc).mono ?_
            rintro e w4 ⟨rfl, m4⟩
            have M4 := Lib.hid (M3.out.trans' m4)
            replace a0 := m4.cell a0 (by simp)
            replace a1 := m4.cell a1 (by simp)
            replace c0 := m4.cell c0 (by simp)
            replace c1 := m4.cell c1 (by simp)
            clear m4 M3 b0 b1
            go_wp2_with fail
            refine (less_w _ _ _ _ true _ hac.out).mono ?_
            rintro e w5 ⟨rfl, m5⟩
            have M5 := Lib.hid (M4.out.trans' m5)
            clear m5 M4 a0 a1 c0 c1
            go_wp2
            go_meet
            exact ⟨rfl, M5.out⟩
        · have hx : lessB aN aR aN bR = false := by simp [lessB]; omega
          have hy : lessB aN bR aN aR = true := by simp [lessB]; omega
          have a0 := A0.out
          have a1 := A1.out
          have b0 := B0.out
          have b1 := B1.out
          have c0 := C0.out
          have c1 := C1.out
          obtain rfl : x = _ := HX.out.symm.trans hx
          obtain rfl : y = _ := HY.out.symm.trans hy
          go_wp2
          go_meet
          exact ⟨rfl, M3.out⟩
    · by_cases hlt : aN < bN
      · have hx : lessB aN aR bN bR = true := by simp [lessB, hlt]
        have hy : lessB bN bR aN aR = false := by simp [lessB]; omega
        have a0 := A0.out
        have a1 := A1.out
        have b0 := B0.out
        have b1 := B1.out
        have c0 := C0.out
        have c1 := C1.out
        obtain rfl : x = _ := HX.out.symm.trans hx
        obtain rfl : y = _ := HY.out.symm.trans hy
        cases hbc : lessB bN bR cN cR with
        | false =>
          go_wp2_with fail
          refine (less_w _ _ _ _ false _ hbc).mono ?_
          rintro e w4 ⟨rfl, m4⟩
          have M4 := Lib.hid (M3.out.trans' m4)
          clear m4 M3 a0 a1 b0 b1 c0 c1
          go_wp2
          go_meet
          exact ⟨rfl, M4.out⟩
        | true =>
          have hac := Lib.hid (lessB_trans hx hbc)
          go_wp2_with fail
          refine (less_w _ _ _ _ true _ hbc).mono ?_
          rintro e w4 ⟨rfl, m4⟩
          have M4 := Lib.hid (M3.out.trans' m4)
          replace a0 := m4.cell a0 (by simp)
          replace a1 := m4.cell a1 (by simp)
          replace c0 := m4.cell c0 (by simp)
          replace c1 := m4.cell c1 (by simp)
          clear m4 M3 b0 b1
          go_wp2_with fail
          refine (less_w _ _ _ _ true _ hac.out).mono ?_
          rintro e w5 ⟨rfl, m5⟩
          have M5 := Lib.hid (M4.out.trans' m5)
          clear m5 M4 a0 a1 c0 c1
          go_wp2
          go_meet
          exact ⟨rfl, M5.out⟩
      · have hx : lessB aN aR bN bR = false := by simp [lessB]; omega
        have hy : lessB bN bR aN aR = true := by simp [lessB]; omega
        have a0 := A0.out
        have a1 := A1.out
        have b0 := B0.out
        have b1 := B1.out
        have c0 := C0.out
        have c1 := C1.out
        obtain rfl : x = _ := HX.out.symm.trans hx
        obtain rfl : y = _ := HY.out.symm.trans hy
        go_wp2
        go_meet
        exact ⟨rfl, M3.out⟩
  case rest =>
    obtain ⟨rfl, hm⟩ := hcut
    have HM := Lib.hid hm
    obtain ⟨⟨mN, mR⟩, hmx⟩ : ∃ p, maxK l l.length = p := ⟨_, rfl⟩
    clear hm A0 A1 B0 B1 C0 C1 M3 HX HY
    go_wp2_with fail
    refine (max_any ao _ cap l _ rfl hlen (HS.out.mod0 HM.out)).mono ?_
    rw [hmx]
    unfold ballot
    rintro e w4 ⟨rfl, m4⟩
    have M4 := Lib.hid (HM.out.trans' m4)
    clear m4 HM
    by_cases hl0 : l.length = 0
    · have h0 : l = [] := List.eq_nil_of_length_eq_zero hl0
      subst h0
      obtain ⟨rfl, rfl⟩ : 0 = mN ∧ 0 = mR := by simpa [maxK] using hmx
      simp only [List.length_nil]
      go_wp2_with fail
      refine wp_loop_rounds 1 ?_
      rw [rounds_succ]
      go_wp2_with fail
      refine (wakes14_any _).mono ?_
      rintro e w9 ⟨rfl, m9⟩
      have M9 := Lib.hid ((M4.out.trans' (Mod.alloc _ _ _)).trans' m9)
      clear m9
      go_wp2
      go_ret
      exact ⟨rfl, M9.out⟩
    · have hsp := Lib.hid (maxK_spec l l.length (by omega) (Nat.le_refl _))
      have H0 : Hid (thereB l (mN, mR) 0 = false) := by simp [Hid, thereB, hl0]
      have hne : ((l.length : Int) == 0) = false := by rw [beq_eq_false_iff_ne]; omega
      rw [hmx] at hsp
      clear hmx
      go_wp2_with fail
      go_loopw [12, 13] (fun th i wr => ∃ k : Nat, k ≤ l.length ∧ th = .bool (thereB l (mN, mR) k) ∧ i = .int .i64 (k : Int) ∧ Mod [] (w4.alloc (.cells #[.int .u64 mN, .int .i64 mR] 24)) wr) (fun _ i _ => l.length - (intOf i).toNat)
      case atStart => exact ⟨0, Nat.zero_le _, by rw [H0.out], rfl, Mod.refl _ _⟩
      case round =>
        obtain ⟨k, hk, rfl, rfl, hm⟩ := hrel
        have M5 := Lib.hid ((M4.out.trans' (Mod.alloc [] w4 (.cells #[.int .u64 mN, .int .i64 mR] 24))).trans' hm)
        have X0 : Hid (wr.cell? ⟨w4.heap.size, 0, none⟩ = some (.int .u64 mN)) := hm.cell (by go_cell) (by simp)
        have X1 : Hid (wr.cell? ⟨w4.heap.size, 1, none⟩ = some (.int .i64 mR)) := hm.cell (by go_cell) (by simp)
        have HM := Lib.hid hm
        clear hm
        by_cases hlt : k < l.length
        · obtain ⟨b, off, rfl, hc0, hc1⟩ := (HS.out.mod0 M5.out) k hlt
          have hd : l.getD k (0, 0) = l[k] := by simp [List.getD, List.getElem?_eq_getElem hlt]
          have hnx : Hid (thereB l (mN, mR) (k + 1) = (thereB l (mN, mR) k || decide (l[k] = (mN, mR)))) := by
            show thereB _ _ _ = _
            unfold thereB
            rw [take_snoc l k hlt, List.any_append, Bool.or_assoc]
            simp
          have hle := Lib.hid (hsp.out.2 k hlt)
          rw [hd] at hle
          generalize thereB l (mN, mR) k = th at hnx ⊢
          obtain ⟨⟨lN, lR⟩, hlk⟩ : ∃ p, l[k] = p := ⟨_, rfl⟩
          rw [hlk] at hc0 hc1 hle hnx
          dsimp only at hc0 hc1 hle
          clear hlk hd
          have L0 := Lib.hid hc0
          have L1 := Lib.hid hc1
          clear hc0 hc1
          cases th with
          | true =>
            replace hnx : Hid (thereB l (mN, mR) (k + 1) = true) := by rw [Hid, hnx.out]; simp
            go_upto_region 11 with (fail)
            refine rest_start [] 10 #[false, false, false, false, false, false, false, false, false, false] rfl (by kernel_rfl) (by kernel_rfl) ?_
            intro w6 m6
            have X2 := Lib.hid (m6.cell X0.out (by simp))
            have X3 := Lib.hid (m6.cell X1.out (by simp))
            have L2 := Lib.hid (m6.cell L0.out (by simp))
            have L3 := Lib.hid (m6.cell L1.out (by simp))
            have M6 := Lib.hid (HM.out.trans' m6)
            clear m6 X0 X1 L0 L1 HM
            refine rest_got (i := 0) (v := ?v7) rfl (by kernel_rfl) (by kernel_rfl) (by kernel_rfl) (fun _ _ _ h => h) (by rfl) ?y7 ?r7
            case y7 => (intro w9q hSwq; clear hSwq; go_simp; with_reducible rfl)
            try simp only [Act.put, List.setIfInBounds_toArray, List.set_cons_zero, List.set_cons_succ]
            refine rest_got (i := 1) (v := ?v8) rfl (by kernel_rfl) (by kernel_rfl) (by kernel_rfl) (fun _ _ _ h => h) (by rfl) ?y8 ?r8
            case y8 => (intro w9q hSwq; clear hSwq; go_simp; with_reducible rfl)
            try simp only [Act.put, List.setIfInBounds_toArray, List.set_cons_zero, List.set_cons_succ]
            refine rest_skip (i := 2) rfl (by kernel_rfl) (by kernel_rfl) (by kernel_rfl) (fun _ _ _ h => h) (by rfl) ?_
            try simp only [Act.put, List.setIfInBounds_toArray, List.set_cons_zero, List.set_cons_succ]
            refine rest_skip (i := 3) rfl (by kernel_rfl) (by kernel_rfl) (by kernel_rfl) (fun _ _ _ h => h) (by rfl) ?_
            try simp only [Act.put, List.setIfInBounds_toArray, List.set_cons_zero, List.set_cons_succ]
            refine rest_skip (i := 4) rfl (by kernel_rfl) (by kernel_rfl) (by kernel_rfl) (fun _ _ _ h => h) (by rfl) ?_
            try simp only [Act.put, List.setIfInBounds_toArray, List.set_cons_zero, List.set_cons_succ]
            refine rest_skip (i := 5) rfl (by kernel_rfl) (by kernel_rfl) (by kernel_rfl) (fun _ _ _ h => h) (by rfl) ?_
            try simp only [Act.put, List.setIfInBounds_toArray, List.set_cons_zero, List.set_cons_succ]
            refine rest_skip (i := 6) rfl (by kernel_rfl) (by kernel_rfl) (by kernel_rfl) (fun _ _ _ h => h) (by rfl) ?_
            try simp only [Act.put, List.setIfInBounds_toArray, List.set_cons_zero, List.set_cons_succ]
            refine rest_skip (i := 7) rfl (by kernel_rfl) (by kernel_rfl) (by kernel_rfl) (fun _ _ _ h => h) (by rfl) ?_
            try simp only [Act.put, List.setIfInBounds_toArray, List.set_cons_zero, List.set_cons_succ]
            refine rest_got (i := 8) (v := ?v9) rfl (by kernel_rfl) (by kernel_rfl) (by kernel_rfl) (fun _ _ _ h => h) (by rfl) ?y9 ?r9
            case y9 => (intro w9q hSwq; clear hSwq; go_simp; with_reducible rfl)
            try simp only [Act.put, List.setIfInBounds_toArray, List.set_cons_zero, List.set_cons_succ]
            refine rest_got (i := 9) (v := ?v10) rfl (by kernel_rfl) (by kernel_rfl) (by kernel_rfl) (fun _ _ _ h => h) (by rfl) ?y10 ?r10
            case y10 => (intro w9q hSwq; clear hSwq; go_simp; with_reducible rfl)
            try simp only [Act.put, List.setIfInBounds_toArray, List.set_cons_zero, List.set_cons_succ]
            refine rest_done (by kernel_rfl) ?_ _
            go_upto_region 12 with (fail)
            refine rest_start [] 6 #[false, false, false, false, false, false] rfl (by kernel_rfl) (by kernel_rfl) ?_
            intro w7 m7
            have X4 := Lib.hid (m7.cell X2.out (by simp))
            have X5 := Lib.hid (m7.cell X3.out (by simp))
            have L4 := Lib.hid (m7.cell L2.out (by simp))
            have L5 := Lib.hid (m7.cell L3.out (by simp))
            have M7 := Lib.hid (M6.out.trans' m7)
            clear m7 X2 X3 L2 L3 M6
            refine rest_got (i := 0) (v := ?v11) rfl (by kernel_rfl) (by kernel_rfl) (by kernel_rfl) (fun _ _ _ h => h) (by rfl) ?y11 ?r11
            case y11 => ((intro w9' hm9'; have hc9' := Mod.cell hm9' X4.out (by first | exact List.not_mem_nil | (simp; omega)); have hd9' := Mod.cell hm9' X5.out (by first | exact List.not_mem_nil | (simp; omega)); clear hm9'; go_simp; with_reducible rfl))
            try simp only [Act.put, List.setIfInBounds_toArray, List.set_cons_zero, List.set_cons_succ]
            refine rest_got (i := 1) (v := ?v12) rfl (by kernel_rfl) (by kernel_rfl) (by kernel_rfl) (fun _ _ _ h => h) (by rfl) ?y12 ?r12
            case y12 => (intro w9q hSwq; clear hSwq; go_simp; with_reducible rfl)
            try simp only [Act.put, List.setIfInBounds_toArray, List.set_cons_zero, List.set_cons_succ]
            refine rest_got (i := 2) (v := ?v13) rfl (by kernel_rfl) (by kernel_rfl) (by kernel_rfl) (fun _ _ _ h => h) (by rfl) ?y13 ?r13
            case y13 => (intro w9q hSwq; clear hSwq; go_simp; with_reducible rfl)
            try simp only [Act.put, List.setIfInBounds_toArray, List.set_cons_zero, List.set_cons_succ]
            refine rest_got (i := 3) (v := ?v14) rfl (by kernel_rfl) (by kernel_rfl) (by kernel_rfl) (fun _ _ _ h => h) (by rfl) ?y14 ?r14
            case y14 => (intro w9q hSwq; clear hSwq; go_simp; with_reducible rfl)
            try simp only [Act.put, List.setIfInBounds_toArray, List.set_cons_zero, List.set_cons_succ]
            refine rest_got (i := 4) (v := ?v15) rfl (by kernel_rfl) (by kernel_rfl) (by kernel_rfl) (fun _ _ _ h => h) (by rfl) ?y15 ?r15
            case y15 => ((intro w9' hm9'; have hc9' := Mod.cell hm9' L4.out (by first | exact List.not_mem_nil | (simp; omega)); have hd9' := Mod.cell hm9' L5.out (by first | exact List.not_mem_nil | (simp; omega)); clear hm9'; go_simp; with_reducible rfl))
            try simp only [Act.put, List.setIfInBounds_toArray, List.set_cons_zero, List.set_cons_succ]
            refine rest_one (i := 5) (by kernel_rfl) rfl (by rfl) ?_
            go_wp2_with fail
            refine (less_w _ _ _ _ false _ hle.out).mono ?_
            rintro e w8 ⟨rfl, m8⟩
            have M8 := Lib.hid (M7.out.trans' m8)
            go_wp2_with fail
            refine back_to (K1 := []) m8 (by simp) ?_
            clear m8 X4 X5 L4 L5 M7
            refine rest_done (by kernel_rfl) ?_ _
            go_wp2
            go_roundw
            case rel => exact ⟨k + 1, by omega, by rw [hnx.out], by go_num, M8.out⟩
            case measure => simp [intOf]; omega
          | false =>
            by_cases e0 : lN = mN
            · subst e0
              by_cases e1 : lR = mR
              · subst e1
                replace hnx : Hid (thereB l (lN, lR) (k + 1) = true) := by rw [Hid, hnx.out]; simp
                go_upto_region 11 with (fail)
                refine rest_start [] 10 #[false, false, false, false, false, false, false, false, false, false] rfl (by kernel_rfl) (by kernel_rfl) ?_
                intro w6 m6
                have X2 := Lib.hid (m6.cell X0.out (by simp))
                have X3 := Lib.hid (m6.cell X1.out (by simp))
                have L2 := Lib.hid (m6.cell L0.out (by simp))
                have L3 := Lib.hid (m6.cell L1.out (by simp))
                have M6 := Lib.hid (HM.out.trans' m6)
                clear m6 X0 X1 L0 L1 HM
                refine rest_got (i := 0) (v := ?v16) rfl (by kernel_rfl) (by kernel_rfl) (by kernel_rfl) (fun _ _ _ h => h) (by rfl) ?y16 ?r16
                case y16 => (intro w9q hSwq; clear hSwq; go_simp; with_reducible rfl)
                try simp only [Act.put, List.setIfInBounds_toArray, List.set_cons_zero, List.set_cons_succ]
                refine rest_got (i := 1) (v := ?v17) rfl (by kernel_rfl) (by kernel_rfl) (by kernel_rfl) (fun _ _ _ h => h) (by rfl) ?y17 ?r17
                case y17 => (intro w9q hSwq; clear hSwq; go_simp; with_reducible rfl)
                try simp only [Act.put, List.setIfInBounds_toArray, List.set_cons_zero, List.set_cons_succ]
                refine rest_got (i := 2) (v := ?v18) rfl (by kernel_rfl) (by kernel_rfl) (by kernel_rfl) (fun _ _ _ h => h) (by rfl) ?y18 ?r18
                case y18 => (intro w9q hSwq; clear hSwq; go_simp; with_reducible rfl)
                try simp only [Act.put, List.setIfInBounds_toArray, List.set_cons_zero, List.set_cons_succ]
                refine rest_got (i := 3) (v := ?v19) rfl (by kernel_rfl) (by kernel_rfl) (by kernel_rfl) (fun _ _ _ h => h) (by rfl) ?y19 ?r19
                case y19 => (intro w9q hSwq; clear hSwq; go_simp; with_reducible rfl)
                try simp only [Act.put, List.setIfInBounds_toArray, List.set_cons_zero, List.set_cons_succ]
                refine rest_got (i := 4) (v := ?v20) rfl (by kernel_rfl) (by kernel_rfl) (by kernel_rfl) (fun _ _ _ h => h) (by rfl) ?y20 ?r20
                case y20 => (intro w9q hSwq; clear hSwq; go_simp; with_reducible rfl)
                try simp only [Act.put, List.setIfInBounds_toArray, List.set_cons_zero, List.set_cons_succ]
                refine rest_got (i := 5) (v := ?v21) rfl (by kernel_rfl) (by kernel_rfl) (by kernel_rfl) (fun _ _ _ h => h) (by rfl) ?y21 ?r21
                case y21 => ((intro w9' hm9'; have hc9' := Mod.cell hm9' L2.out (by first | exact List.not_mem_nil | (simp; omega)); have hd9' := Mod.cell hm9' L3.out (by first | exact List.not_mem_nil | (simp; omega)); clear hm9'; go_simp; with_reducible rfl))
                try simp only [Act.put, List.setIfInBounds_toArray, List.set_cons_zero, List.set_cons_succ]
                refine rest_got (i := 6) (v := ?v22) rfl (by kernel_rfl) (by kernel_rfl) (by kernel_rfl) (fun _ _ _ h => h) (by rfl) ?y22 ?r22
                case y22 => ((intro w9' hm9'; have hc9' := Mod.cell hm9' X2.out (by first | exact List.not_mem_nil | (simp; omega)); have hd9' := Mod.cell hm9' X3.out (by first | exact List.not_mem_nil | (simp; omega)); clear hm9'; go_simp; with_reducible rfl))
                try simp only [Act.put, List.setIfInBounds_toArray, List.set_cons_zero, List.set_cons_succ]
                refine rest_got (i := 7) (v := ?v23) rfl (by kernel_rfl) (by kernel_rfl) (by kernel_rfl) (fun _ _ _ h => h) (by rfl) ?y23 ?r23
                case y23 => (intro w9q hSwq; clear hSwq; go_simp; with_reducible rfl)
                try simp only [Act.put, List.setIfInBounds_toArray, List.set_cons_zero, List.set_cons_succ]
                refine rest_got (i := 8) (v := ?v24) rfl (by kernel_rfl) (by kernel_rfl) (by kernel_rfl) (fun _ _ _ h => h) (by rfl) ?y24 ?r24
                case y24 => (intro w9q hSwq; clear hSwq; go_simp; with_reducible rfl)
                try simp only [Act.put, List.setIfInBounds_toArray, List.set_cons_zero, List.set_cons_succ]
                refine rest_got (i := 9) (v := ?v25) rfl (by kernel_rfl) (by kernel_rfl) (by kernel_rfl) (fun _ _ _ h => h) (by rfl) ?y25 ?r25
                case y25 => (intro w9q hSwq; clear hSwq; go_simp; with_reducible rfl)
                try simp only [Act.put, List.setIfInBounds_toArray, List.set_cons_zero, List.set_cons_succ]
                refine rest_done (by kernel_rfl) ?_ _
                go_upto_region 12 with (fail)
                refine rest_start [] 6 #[false, false, false, false, false, false] rfl (by kernel_rfl) (by kernel_rfl) ?_
                intro w7 m7
                have X4 := Lib.hid (m7.cell X2.out (by simp))
                have X5 := Lib.hid (m7.cell X3.out (by simp))
                have L4 := Lib.hid (m7.cell L2.out (by simp))
                have L5 := Lib.hid (m7.cell L3.out (by simp))
                have M7 := Lib.hid (M6.out.trans' m7)
                clear m7 X2 X3 L2 L3 M6
                refine rest_got (i := 0) (v := ?v26) rfl (by kernel_rfl) (by kernel_rfl) (by kernel_rfl) (fun _ _ _ h => h) (by rfl) ?y26 ?r26
                case y26 => ((intro w9' hm9'; have hc9' := Mod.cell hm9' X4.out (by first | exact List.not_mem_nil | (simp; omega)); have hd9' := Mod.cell hm9' X5.out (by first | exact List.not_mem_nil | (simp; omega)); clear hm9'; go_simp; with_reducible rfl))
                try simp only [Act.put, List.setIfInBounds_toArray, List.set_cons_zero, List.set_cons_succ]
                refine rest_got (i := 1) (v := ?v27) rfl (by kernel_rfl) (by kernel_rfl) (by kernel_rfl) (fun _ _ _ h => h) (by rfl) ?y27 ?r27
                case y27 => (intro w9q hSwq; clear hSwq; go_simp; with_reducible rfl)
                try simp only [Act.put, List.setIfInBounds_toArray, List.set_cons_zero, List.set_cons_succ]
                refine rest_got (i := 2) (v := ?v28) rfl (by kernel_rfl) (by kernel_rfl) (by kernel_rfl) (fun _ _ _ h => h) (by rfl) ?y28 ?r28
                case y28 => (intro w9q hSwq; clear hSwq; go_simp; with_reducible rfl)
                try simp only [Act.put, List.setIfInBounds_toArray, List.set_cons_zero, List.set_cons_succ]
                refine rest_got (i := 3) (v := ?v29) rfl (by kernel_rfl) (by kernel_rfl) (by kernel_rfl) (fun _ _ _ h => h) (by rfl) ?y29 ?r29
                case y29 => (intro w9q hSwq; clear hSwq; go_simp; with_reducible rfl)
                try simp only [Act.put, List.setIfInBounds_toArray, List.set_cons_zero, List.set_cons_succ]
                refine rest_got (i := 4) (v := ?v30) rfl (by kernel_rfl) (by kernel_rfl) (by kernel_rfl) (fun _ _ _ h => h) (by rfl) ?y30 ?r30
                case y30 => ((intro w9' hm9'; have hc9' := Mod.cell hm9' L4.out (by first | exact List.not_mem_nil | (simp; omega)); have hd9' := Mod.cell hm9' L5.out (by first | exact List.not_mem_nil | (simp; omega)); clear hm9'; go_simp; with_reducible rfl))
                try simp only [Act.put, List.setIfInBounds_toArray, List.set_cons_zero, List.set_cons_succ]
                refine rest_one (i := 5) (by kernel_rfl) rfl (by rfl) ?_
                go_wp2_with fail
                refine (less_w _ _ _ _ false _ hle.out).mono ?_
                rintro e w8 ⟨rfl, m8⟩
                have M8 := Lib.hid (M7.out.trans' m8)
                go_wp2_with fail
                refine back_to (K1 := []) m8 (by simp) ?_
                clear m8 X4 X5 L4 L5 M7
                refine rest_done (by kernel_rfl) ?_ _
                go_wp2
                go_roundw
                case rel => exact ⟨k + 1, by omega, by rw [hnx.out], by go_num, M8.out⟩
                case measure => simp [intOf]; omega
              · replace hnx : Hid (thereB l (lN, mR) (k + 1) = false) := by rw [Hid, hnx.out]; simp [e1]
                go_upto_region 11 with (fail)
                refine rest_start [] 10 #[false, false, false, false, false, false, false, false, false, false] rfl (by kernel_rfl) (by kernel_rfl) ?_
                intro w6 m6
                have X2 := Lib.hid (m6.cell X0.out (by simp))
                have X3 := Lib.hid (m6.cell X1.out (by simp))
                have L2 := Lib.hid (m6.cell L0.out (by simp))
                have L3 := Lib.hid (m6.cell L1.out (by simp))
                have M6 := Lib.hid (HM.out.trans' m6)
                clear m6 X0 X1 L0 L1 HM
                refine rest_got (i := 0) (v := ?v31) rfl (by kernel_rfl) (by kernel_rfl) (by kernel_rfl) (fun _ _ _ h => h) (by rfl) ?y31 ?r31
                case y31 => (intro w9q hSwq; clear hSwq; go_simp; with_reducible rfl)
                try simp only [Act.put, List.setIfInBounds_toArray, List.set_cons_zero, List.set_cons_succ]
                refine rest_got (i := 1) (v := ?v32) rfl (by kernel_rfl) (by kernel_rfl) (by kernel_rfl) (fun _ _ _ h => h) (by rfl) ?y32 ?r32
                case y32 => (intro w9q hSwq; clear hSwq; go_simp; with_reducible rfl)
                try simp only [Act.put, List.setIfInBounds_toArray, List.set_cons_zero, List.set_cons_succ]
                refine rest_got (i := 2) (v := ?v33) rfl (by kernel_rfl) (by kernel_rfl) (by kernel_rfl) (fun _ _ _ h => h) (by rfl) ?y33 ?r33
                case y33 => (intro w9q hSwq; clear hSwq; go_simp; with_reducible rfl)
                try simp only [Act.put, List.setIfInBounds_toArray, List.set_cons_zero, List.set_cons_succ]
                refine rest_got (i := 3) (v := ?v34) rfl (by kernel_rfl) (by kernel_rfl) (by kernel_rfl) (fun _ _ _ h => h) (by rfl) ?y34 ?r34
                case y34 => (intro w9q hSwq; clear hSwq; go_simp; with_reducible rfl)
                try simp only [Act.put, List.setIfInBounds_toArray, List.set_cons_zero, List.set_cons_succ]
                refine rest_got (i := 4) (v := ?v35) rfl (by kernel_rfl) (by kernel_rfl) (by kernel_rfl) (fun _ _ _ h => h) (by rfl) ?y35 ?r35
                case y35 => (intro w9q hSwq; clear hSwq; go_simp; with_reducible rfl)
                try simp only [Act.put, List.setIfInBounds_toArray, List.set_cons_zero, List.set_cons_succ]
                refine rest_got (i := 5) (v := ?v36) rfl (by kernel_rfl) (by kernel_rfl) (by kernel_rfl) (fun _ _ _ h => h) (by rfl) ?y36 ?r36
                case y36 => ((intro w9' hm9'; have hc9' := Mod.cell hm9' L2.out (by first | exact List.not_mem_nil | (simp; omega)); have hd9' := Mod.cell hm9' L3.out (by first | exact List.not_mem_nil | (simp; omega)); clear hm9'; go_simp; with_reducible rfl))
                try simp only [Act.put, List.setIfInBounds_toArray, List.set_cons_zero, List.set_cons_succ]
                refine rest_got (i := 6) (v := ?v37) rfl (by kernel_rfl) (by kernel_rfl) (by kernel_rfl) (fun _ _ _ h => h) (by rfl) ?y37 ?r37
                case y37 => ((intro w9' hm9'; have hc9' := Mod.cell hm9' X2.out (by first | exact List.not_mem_nil | (simp; omega)); have hd9' := Mod.cell hm9' X3.out (by first | exact List.not_mem_nil | (simp; omega)); clear hm9'; go_simp; with_reducible rfl))
                try simp only [Act.put, List.setIfInBounds_toArray, List.set_cons_zero, List.set_cons_succ]
                refine rest_got (i := 7) (v := ?v38) rfl (by kernel_rfl) (by kernel_rfl) (by kernel_rfl) (fun _ _ _ h => h) (by rfl) ?y38 ?r38
                case y38 => (intro w9q hSwq; clear hSwq; go_simp; with_reducible rfl)
                try simp only [Act.put, List.setIfInBounds_toArray, List.set_cons_zero, List.set_cons_succ]
                refine rest_got (i := 8) (v := ?v39) rfl (by kernel_rfl) (by kernel_rfl) (by kernel_rfl) (fun _ _ _ h => h) (by rfl) ?y39 ?r39
                case y39 => (intro w9q hSwq; clear hSwq; go_simp; with_reducible rfl)
                try simp only [Act.put, List.setIfInBounds_toArray, List.set_cons_zero, List.set_cons_succ]
                refine rest_got (i := 9) (v := ?v40) rfl (by kernel_rfl) (by kernel_rfl) (by kernel_rfl) (fun _ _ _ h => h) (by rfl) ?y40 ?r40
                case y40 => (intro w9q hSwq; clear hSwq; go_simp; with_reducible rfl)
                try simp only [Act.put, List.setIfInBounds_toArray, List.set_cons_zero, List.set_cons_succ]
                refine rest_done (by kernel_rfl) ?_ _
                go_upto_region 12 with (fail)
                refine rest_start [] 6 #[false, false, false, false, false, false] rfl (by kernel_rfl) (by kernel_rfl) ?_
                intro w7 m7
                have X4 := Lib.hid (m7.cell X2.out (by simp))
                have X5 := Lib.hid (m7.cell X3.out (by simp))
                have L4 := Lib.hid (m7.cell L2.out (by simp))
                have L5 := Lib.hid (m7.cell L3.out (by simp))
                have M7 := Lib.hid (M6.out.trans' m7)
                clear m7 X2 X3 L2 L3 M6
                refine rest_got (i := 0) (v := ?v41) rfl (by kernel_rfl) (by kernel_rfl) (by kernel_rfl) (fun _ _ _ h => h) (by rfl) ?y41 ?r41
                case y41 => ((intro w9' hm9'; have hc9' := Mod.cell hm9' X4.out (by first | exact List.not_mem_nil | (simp; omega)); have hd9' := Mod.cell hm9' X5.out (by first | exact List.not_mem_nil | (simp; omega)); clear hm9'; go_simp; with_reducible rfl))
                try simp only [Act.put, List.setIfInBounds_toArray, List.set_cons_zero, List.set_cons_succ]
                refine rest_got (i := 1) (v := ?v42) rfl (by kernel_rfl) (by kernel_rfl) (by kernel_rfl) (fun _ _ _ h => h) (by rfl) ?y42 ?r42
                case y42 => (intro w9q hSwq; clear hSwq; go_simp; with_reducible rfl)
                try simp only [Act.put, List.setIfInBounds_toArray, List.set_cons_zero, List.set_cons_succ]
                refine rest_got (i := 2) (v := ?v43) rfl (by kernel_rfl) (by kernel_rfl) (by kernel_rfl) (fun _ _ _ h => h) (by rfl) ?y43 ?r43
                case y43 => (intro w9q hSwq; clear hSwq; go_simp; with_reducible rfl)
                try simp only [Act.put, List.setIfInBounds_toArray, List.set_cons_zero, List.set_cons_succ]
                refine rest_got (i := 3) (v := ?v44) rfl (by kernel_rfl) (by kernel_rfl) (by kernel_rfl) (fun _ _ _ h => h) (by rfl) ?y44 ?r44
                case y44 => (intro w9q hSwq; clear hSwq; go_simp; with_reducible rfl)
                try simp only [Act.put, List.setIfInBounds_toArray, List.set_cons_zero, List.set_cons_succ]
                refine rest_got (i := 4) (v := ?v45) rfl (by kernel_rfl) (by kernel_rfl) (by kernel_rfl) (fun _ _ _ h => h) (by rfl) ?y45 ?r45
                case y45 => ((intro w9' hm9'; have hc9' := Mod.cell hm9' L4.out (by first | exact List.not_mem_nil | (simp; omega)); have hd9' := Mod.cell hm9' L5.out (by first | exact List.not_mem_nil | (simp; omega)); clear hm9'; go_simp; with_reducible rfl))
                try simp only [Act.put, List.setIfInBounds_toArray, List.set_cons_zero, List.set_cons_succ]
                refine rest_one (i := 5) (by kernel_rfl) rfl (by rfl) ?_
                go_wp2_with fail
                refine (less_w _ _ _ _ false _ hle.out).mono ?_
                rintro e w8 ⟨rfl, m8⟩
                have M8 := Lib.hid (M7.out.trans' m8)
                go_wp2_with fail
                refine back_to (K1 := []) m8 (by simp) ?_
                clear m8 X4 X5 L4 L5 M7
                refine rest_done (by kernel_rfl) ?_ _
                go_wp2
                go_roundw
                case rel => exact ⟨k + 1, by omega, by rw [hnx.out], by go_num, M8.out⟩
                case measure => simp [intOf]; omega
            · replace hnx : Hid (thereB l (mN, mR) (k + 1) = false) := by rw [Hid, hnx.out]; simp [e0]
              go_upto_region 11 with (fail)
              refine rest_start [] 10 #[false, false, false, false, false, false, false, false, false, false] rfl (by kernel_rfl) (by kernel_rfl) ?_
              intro w6 m6
              have X2 := Lib.hid (m6.cell X0.out (by simp))
              have X3 := Lib.hid (m6.cell X1.out (by simp))
              have L2 := Lib.hid (m6.cell L0.out (by simp))
              have L3 := Lib.hid (m6.cell L1.out (by simp))
              have M6 := Lib.hid (HM.out.trans' m6)
              clear m6 X0 X1 L0 L1 HM
              refine rest_got (i := 0) (v := ?v46) rfl (by kernel_rfl) (by kernel_rfl) (by kernel_rfl) (fun _ _ _ h => h) (by rfl) ?y46 ?r46
              case y46 => (intro w9q hSwq; clear hSwq; go_simp; with_reducible rfl)
              try simp only [Act.put, List.setIfInBounds_toArray, List.set_cons_zero, List.set_cons_succ]
              refine rest_got (i := 1) (v := ?v47) rfl (by kernel_rfl) (by kernel_rfl) (by kernel_rfl) (fun _ _ _ h => h) (by rfl) ?y47 ?r47
              case y47 => (intro w9q hSwq; clear hSwq; go_simp; with_reducible rfl)
              try simp only [Act.put, List.setIfInBounds_toArray, List.set_cons_zero, List.set_cons_succ]
              refine rest_got (i := 2) (v := ?v48) rfl (by kernel_rfl) (by kernel_rfl) (by kernel_rfl) (fun _ _ _ h => h) (by rfl) ?y48 ?r48
              case y48 => (intro w9q hSwq; clear hSwq; go_simp; with_reducible rfl)
              try simp only [Act.put, List.setIfInBounds_toArray, List.set_cons_zero, List.set_cons_succ]
              refine rest_got (i := 3) (v := ?v49) rfl (by kernel_rfl) (by kernel_rfl) (by kernel_rfl) (fun _ _ _ h => h) (by rfl) ?y49 ?r49
              case y49 => (intro w9q hSwq; clear hSwq; go_simp; with_reducible rfl)
              try simp only [Act.put, List.setIfInBounds_toArray, List.set_cons_zero, List.set_cons_succ]
              refine rest_got (i := 4) (v := ?v50) rfl (by kernel_rfl) (by kernel_rfl) (by kernel_rfl) (fun _ _ _ h => h) (by rfl) ?y50 ?r50
              case y50 => (intro w9q hSwq; clear hSwq; go_simp; with_reducible rfl)
              try simp only [Act.put, List.setIfInBounds_toArray, List.set_cons_zero, List.set_cons_succ]
              refine rest_got (i := 5) (v := ?v51) rfl (by kernel_rfl) (by kernel_rfl) (by kernel_rfl) (fun _ _ _ h => h) (by rfl) ?y51 ?r51
              case y51 => ((intro w9' hm9'; have hc9' := Mod.cell hm9' L2.out (by first | exact List.not_mem_nil | (simp; omega)); have hd9' := Mod.cell hm9' L3.out (by first | exact List.not_mem_nil | (simp; omega)); clear hm9'; go_simp; with_reducible rfl))
              try simp only [Act.put, List.setIfInBounds_toArray, List.set_cons_zero, List.set_cons_succ]
              refine rest_got (i := 6) (v := ?v52) rfl (by kernel_rfl) (by kernel_rfl) (by kernel_rfl) (fun _ _ _ h => h) (by rfl) ?y52 ?r52
              case y52 => ((intro w9' hm9'; have hc9' := Mod.cell hm9' X2.out (by first | exact List.not_mem_nil | (simp; omega)); have hd9' := Mod.cell hm9' X3.out (by first | exact List.not_mem_nil | (simp; omega)); clear hm9'; go_simp; with_reducible rfl))
              try simp only [Act.put, List.setIfInBounds_toArray, List.set_cons_zero, List.set_cons_succ]
              refine rest_got (i := 7) (v := ?v53) rfl (by kernel_rfl) (by kernel_rfl) (by kernel_rfl) (fun _ _ _ h => h) (by rfl) ?y53 ?r53
              case y53 => (intro w9q hSwq; clear hSwq; go_simp; with_reducible rfl)
              try simp only [Act.put, List.setIfInBounds_toArray, List.set_cons_zero, List.set_cons_succ]
              refine rest_got (i := 8) (v := ?v54) rfl (by kernel_rfl) (by kernel_rfl) (by kernel_rfl) (fun _ _ _ h => h) (by rfl) ?y54 ?r54
              case y54 => (intro w9q hSwq; clear hSwq; go_simp; with_reducible rfl)
              try simp only [Act.put, List.setIfInBounds_toArray, List.set_cons_zero, List.set_cons_succ]
              refine rest_got (i := 9) (v := ?v55) rfl (by kernel_rfl) (by kernel_rfl) (by kernel_rfl) (fun _ _ _ h => h) (by rfl) ?y55 ?r55
              case y55 => (intro w9q hSwq; clear hSwq; go_simp; with_reducible rfl)
              try simp only [Act.put, List.setIfInBounds_toArray, List.set_cons_zero, List.set_cons_succ]
              refine rest_done (by kernel_rfl) ?_ _
              go_upto_region 12 with (fail)
              refine rest_start [] 6 #[false, false, false, false, false, false] rfl (by kernel_rfl) (by kernel_rfl) ?_
              intro w7 m7
              have X4 := Lib.hid (m7.cell X2.out (by simp))
              have X5 := Lib.hid (m7.cell X3.out (by simp))
              have L4 := Lib.hid (m7.cell L2.out (by simp))
              have L5 := Lib.hid (m7.cell L3.out (by simp))
              have M7 := Lib.hid (M6.out.trans' m7)
              clear m7 X2 X3 L2 L3 M6
              refine rest_got (i := 0) (v := ?v56) rfl (by kernel_rfl) (by kernel_rfl) (by kernel_rfl) (fun _ _ _ h => h) (by rfl) ?y56 ?r56
              case y56 => ((intro w9' hm9'; have hc9' := Mod.cell hm9' X4.out (by first | exact List.not_mem_nil | (simp; omega)); have hd9' := Mod.cell hm9' X5.out (by first | exact List.not_mem_nil | (simp; omega)); clear hm9'; go_simp; with_reducible rfl))
              try simp only [Act.put, List.setIfInBounds_toArray, List.set_cons_zero, List.set_cons_succ]
              refine rest_got (i := 1) (v := ?v57) rfl (by kernel_rfl) (by kernel_rfl) (by kernel_rfl) (fun _ _ _ h => h) (by rfl) ?y57 ?r57
              case y57 => (intro w9q hSwq; clear hSwq; go_simp; with_reducible rfl)
              try simp only [Act.put, List.setIfInBounds_toArray, List.set_cons_zero, List.set_cons_succ]
              refine rest_got (i := 2) (v := ?v58) rfl (by kernel_rfl) (by kernel_rfl) (by kernel_rfl) (fun _ _ _ h => h) (by rfl) ?y58 ?r58
              case y58 => (intro w9q hSwq; clear hSwq; go_simp; with_reducible rfl)
              try simp only [Act.put, List.setIfInBounds_toArray, List.set_cons_zero, List.set_cons_succ]
              refine rest_got (i := 3) (v := ?v59) rfl (by kernel_rfl) (by kernel_rfl) (by kernel_rfl) (fun _ _ _ h => h) (by rfl) ?y59 ?r59
              case y59 => (intro w9q hSwq; clear hSwq; go_simp; with_reducible rfl)
              try simp only [Act.put, List.setIfInBounds_toArray, List.set_cons_zero, List.set_cons_succ]
              refine rest_got (i := 4) (v := ?v60) rfl (by kernel_rfl) (by kernel_rfl) (by kernel_rfl) (fun _ _ _ h => h) (by rfl) ?y60 ?r60
              case y60 => ((intro w9' hm9'; have hc9' := Mod.cell hm9' L4.out (by first | exact List.not_mem_nil | (simp; omega)); have hd9' := Mod.cell hm9' L5.out (by first | exact List.not_mem_nil | (simp; omega)); clear hm9'; go_simp; with_reducible rfl))
              try simp only [Act.put, List.setIfInBounds_toArray, List.set_cons_zero, List.set_cons_succ]
              refine rest_one (i := 5) (by kernel_rfl) rfl (by rfl) ?_
              go_wp2_with fail
              refine (less_w _ _ _ _ false _ hle.out).mono ?_
              rintro e w8 ⟨rfl, m8⟩
              have M8 := Lib.hid (M7.out.trans' m8)
              go_wp2_with fail
              refine back_to (K1 := []) m8 (by simp) ?_
              clear m8 X4 X5 L4 L5 M7
              refine rest_done (by kernel_rfl) ?_ _
              go_wp2
              go_roundw
              case rel => exact ⟨k + 1, by omega, by rw [hnx.out], by go_num, M8.out⟩
              case measure => simp [intOf]; omega
        · have hke : k = l.length := by omega
          subst hke
          have hfin : thereB l (mN, mR) l.length = true := by
            obtain ⟨⟨j, hj, hjm⟩, _⟩ := hsp.out
            unfold thereB
            rw [List.take_length, Bool.or_eq_true]
            refine .inr (List.any_eq_true.2 ⟨(mN, mR), ?_, by simp⟩)
            have e : l[j] = (mN, mR) := by simpa [List.getD, List.getElem?_eq_getElem hj] using hjm
            rw [← e]
            exact List.getElem_mem hj
          rw [hfin]
          go_wp2_with fail
          refine (wakes14_any _).mono ?_
          rintro e w9 ⟨rfl, m9⟩
          have M9 := Lib.hid (M5.out.trans' m9)
          clear m9
          go_wp2
          go_ret
          exact ⟨rfl, M9.out⟩
end Go.Proofs.Ytodkjkfaaamlaaa
