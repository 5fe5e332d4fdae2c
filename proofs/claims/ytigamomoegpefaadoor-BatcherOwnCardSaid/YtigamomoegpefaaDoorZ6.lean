/- Texts put together (6 of 7): Bat3, Bat4, Bat5, Bat6, VarLaw, BatTake. -/
import Derived.Test.YtigamomoegpefaaDoorZ5
import Derived.Test.YtigamomoegpefaaDoorZ4
import Derived.Handy
/- The heap's walks over a batcher's row. -/
namespace Go.Proofs.YtigamomoegpefaaDoor
open Go Go.RowKit Go.Lib

abbrev hpV (b : Nat) : Value := .iface 72 (.pointer (some ⟨b, 5, none⟩))
/-- What a round of the heap keeps: the row, permuted. -/
structure HpR (w0 : World) (b : Nat) (v0 v1 v2 v3 v4 : Value) (ra : Option Addr) (rc : Nat) (hs0 : List He) (hs : List He) (w : World) : Prop where
  row : RowW w b v0 v1 v2 v3 v4 ra rc hs
  perm : hs.Perm hs0
  mod : Mod (blk ra) w0 w
theorem HpR.len {w0 : World} {b : Nat} {v0 v1 v2 v3 v4 : Value} {ra : Option Addr} {rc : Nat} {hs0 hs : List He} {w : World} (h : HpR w0 b v0 v1 v2 v3 v4 ra rc hs0 hs w) : hs.length = hs0.length := h.perm.length_eq
theorem HpR.still {w0 : World} {b : Nat} {v0 v1 v2 v3 v4 : Value} {ra : Option Addr} {rc : Nat} {hs0 hs : List He} {w w' : World} (h : HpR w0 b v0 v1 v2 v3 v4 ra rc hs0 hs w) (m : Mod [] w w') : HpR w0 b v0 v1 v2 v3 v4 ra rc hs0 hs w' :=
  ⟨h.row.mod m List.not_mem_nil (fun _ _ => List.not_mem_nil), h.perm, h.mod.trans0 m⟩
theorem HpR.swap {w0 : World} {b : Nat} {v0 v1 v2 v3 v4 : Value} {ra : Option Addr} {rc : Nat} {hs0 hs : List He} {w w' : World} (h : HpR w0 b v0 v1 v2 v3 v4 ra rc hs0 hs w) (i j : Nat) (hi : i < hs.length) (hj : j < hs.length) (o : OwnH w' ra rc (swp hs i j)) (m : Mod (blk ra) w w') : HpR w0 b v0 v1 v2 v3 v4 ra rc hs0 (swp hs i j) w' :=
  ⟨⟨by rw [swp_length]; exact m.get h.row.blk h.row.apart, o, h.row.apart⟩, (swp_perm hs i j hi hj).trans h.perm, h.mod.trans' m⟩

set_option maxRecDepth 100000 in
set_option maxHeartbeats 4000000 in
theorem up_any (b : Nat) (v0 v1 v2 v3 v4 : Value) (ra : Option Addr) (rc : Nat) (hs : List He) (j : Nat) (w : World) (h : RowW w b v0 v1 v2 v3 v4 ra rc hs) (hu : UpInv hs.length hs j) (hj : j < hs.length) (hm : hs.length ≤ 100000) :
    Calls Tryd.prog 40 #[hpV b, .int .i64 (j : Int)] w fun e w' => e = .returned (.tuple #[]) ∧
      ∃ hs', HpR w b v0 v1 v2 v3 v4 ra rc hs hs' w' ∧ Heap hs'.length hs' := by
  obtain ⟨n, hn⟩ : ∃ n, hs.length = n := ⟨_, rfl⟩
  have HN := Lib.hid hn
  have H : Hid (HpR w b v0 v1 v2 v3 v4 ra rc hs hs w) := Lib.hid ⟨h, List.Perm.refl _, Mod.refl _ _⟩
  have HU := Lib.hid hu
  rw [hn] at hj hm HU
  clear h hu hn
  go_enter Tryd.func40, Tryd.ntmps40
  go_wp2_with fail
  go_loopw [1] (fun i wr => ∃ (k : Nat) (hs' : List He), i = .int .i64 (k : Int) ∧ k < n ∧ HpR w b v0 v1 v2 v3 v4 ra rc hs hs' wr ∧ UpInv n hs' k) (fun i _ => (intOf i).toNat)
  case atStart => exact ⟨j, hs, rfl, hj, H.out, HU.out⟩
  case round =>
    obtain ⟨k, hs', rfl, hk, hr, hv⟩ := hrel
    have R := Lib.hid hr
    have V := Lib.hid hv
    have hl : hs'.length = n := by rw [hr.len, HN.out]
    have HL := Lib.hid hl
    clear hr hv hl
    by_cases h0 : k = 0
    · subst h0
      go_wp2_with fail
      go_end0
      exact ⟨rfl, hs', R.out, by rw [HL.out]; exact V.out.stop0⟩
    · obtain ⟨m, hkm⟩ : ∃ m, k = m + 1 := ⟨k - 1, by omega⟩
      obtain ⟨p, hp⟩ : ∃ p, m / 2 = p := ⟨_, rfl⟩
      have hpn : p < n := by omega
      have hpk : (k - 1) / 2 = p := by omega
      have HPK := Lib.hid hpk
      have HLS := Lib.hid (rowLess_any ra rc hs' k p wr R.out.row.own (by rw [HL.out]; exact hk) (by rw [HL.out]; exact hpn) (by rw [HL.out]; omega))
      have c5 := cell_of_block (i := 5) R.out.row.blk
      rw [HL.out] at c5 HLS
      have c5 : wr.cell? ⟨b, 5, none⟩ = some (.slice ra n rc) := c5
      have mL := meth_Less wr b ra n rc c5
      have e1 : IntKind.i64.wrap ((k : Int) - 1) = (m : Int) := by rw [show (k : Int) - 1 = (m : Int) by omega]; exact IntWalk.i64_in _ (by omega)
      have e2 : (m : Int).tdiv 2 = (p : Int) := by rw [Int.tdiv_eq_ediv_of_nonneg (by omega)]; omega
      have e3 : ((p : Int) == (k : Int)) = false := by simp; omega
      have HK := Lib.hid (And.intro hkm hp)
      clear h0 hkm hp hpk
      go_wp2_with fail
      refine HLS.out.mono ?_
      rintro e w1 ⟨rfl, m1⟩
      have R1 := Lib.hid (R.out.still m1)
      have c5 := m1.cell c5 List.not_mem_nil
      clear R m1 HLS mL
      by_cases hlt : ltH (aH hs' k) (aH hs' p)
      · rw [decide_eq_true hlt]
        have HLT := Lib.hid hlt
        have HSW := Lib.hid (rowSwap_any ra rc hs' p k w1 R1.out.row.own (by rw [HL.out]; exact hpn) (by rw [HL.out]; exact hk) (by rw [HL.out]; omega))
        rw [HL.out] at HSW
        have mS := meth_Swap w1 b ra n rc c5
        clear hlt
        go_wp2_with fail
        refine HSW.out.mono ?_
        rintro e w2 ⟨rfl, o2, m2⟩
        have R2 := Lib.hid (R1.out.swap p k (by rw [HL.out]; exact hpn) (by rw [HL.out]; exact hk) o2 m2)
        have V2 : Hid (UpInv n (swp hs' p k) p) := Lib.hid (by
          have hk1 := HK.out
          have := V.out.step (by rw [HL.out]; exact Nat.le_refl _) (by omega) hk (by rw [HPK.out]; exact HLT.out)
          rwa [HPK.out] at this)
        clear o2 m2 HSW mS
        go_wp2_with fail
        go_roundw
        case rel => exact ⟨p, swp hs' p k, rfl, hpn, R2.out, V2.out⟩
        case measure => simp [intOf]; have := HK.out; omega
      · rw [decide_eq_false hlt]
        have HLT := Lib.hid hlt
        clear hlt
        go_wp2_with fail
        go_end0
        refine ⟨rfl, hs', R1.out, ?_⟩
        rw [HL.out]
        exact V.out.halt (by rw [HPK.out]; exact not_ltH.1 HLT.out)

set_option maxRecDepth 100000 in
set_option maxHeartbeats 8000000 in
theorem down_any (b : Nat) (v0 v1 v2 v3 v4 : Value) (ra : Option Addr) (rc : Nat) (hs : List He) (n : Nat) (w : World) (h : RowW w b v0 v1 v2 v3 v4 ra rc hs) (hu : DownInv n hs 0) (hn : n + 1 = hs.length) (hm : hs.length ≤ 100000) :
    Calls Tryd.prog 47 #[hpV b, .int .i64 0, .int .i64 (n : Int)] w fun e w' => (∃ t, e = .returned (.bool t)) ∧
      ∃ hs', HpR w b v0 v1 v2 v3 v4 ra rc hs hs' w' ∧ Heap n hs' ∧ aH hs' n = aH hs n := by
  have HN := Lib.hid hn
  have H : Hid (HpR w b v0 v1 v2 v3 v4 ra rc hs hs w) := Lib.hid ⟨h, List.Perm.refl _, Mod.refl _ _⟩
  have HU := Lib.hid hu
  have hm : n ≤ 100000 := by omega
  clear h hu hn
  go_enter Tryd.func47, Tryd.ntmps47
  go_wp2_with fail
  go_loopw [7] (fun i wr => ∃ (k : Nat) (hs' : List He), i = .int .i64 (k : Int) ∧ k < n + 1 ∧ HpR w b v0 v1 v2 v3 v4 ra rc hs hs' wr ∧ DownInv n hs' k ∧ aH hs' n = aH hs n) (fun i _ => n - (intOf i).toNat)
  case atStart => exact ⟨0, hs, rfl, by omega, H.out, HU.out, rfl⟩
  case round =>
    obtain ⟨k, hs', rfl, hk, hr, hv, hlast⟩ := hrel
    have R := Lib.hid hr
    have V := Lib.hid hv
    have hl : hs'.length = n + 1 := by rw [hr.len, ← HN.out]
    have HL := Lib.hid hl
    have LS := Lib.hid hlast
    clear hr hv hl hlast
    obtain ⟨k2, hk2⟩ : ∃ x, 2 * k = x := ⟨_, rfl⟩
    obtain ⟨j1, hj1⟩ : ∃ x, k2 + 1 = x := ⟨_, rfl⟩
    have e1 : IntKind.i64.wrap (2 * (k : Int)) = (k2 : Int) := by rw [show 2 * (k : Int) = (k2 : Int) by omega]; exact IntWalk.i64_in _ (by omega)
    have e2 : IntKind.i64.wrap ((k2 : Int) + 1) = (j1 : Int) := by rw [show (k2 : Int) + 1 = (j1 : Int) by omega]; exact IntWalk.i64_in _ (by omega)
    have HJ := Lib.hid (show j1 = 2 * k + 1 by omega)
    have hkb : k ≤ 100000 := by omega
    clear hk2 hj1
    by_cases h0 : n ≤ j1
    · have D : decide ((n : Int) ≤ (j1 : Int)) = true := by simp; omega
      have D2 : decide (n ≤ j1) = true := by simp; omega
      go_wp2_with fail
      go_ret
      refine ⟨⟨_, rfl⟩, hs', R.out, V.out.stop1 (by have := HJ.out; omega), LS.out⟩
    · have D : decide ((n : Int) ≤ (j1 : Int)) = false := by simp; omega
      have D2 : decide (n ≤ j1) = false := by simp; omega
      have D3 : decide ((j1 : Int) < 0) = false := by simp
      obtain ⟨j2, hj2⟩ : ∃ x, j1 + 1 = x := ⟨_, rfl⟩
      have e3 : IntKind.i64.wrap ((j1 : Int) + 1) = (j2 : Int) := by rw [show (j1 : Int) + 1 = (j2 : Int) by omega]; exact IntWalk.i64_in _ (by omega)
      have HJ2 := Lib.hid hj2
      have hj1 : j1 < n := by omega
      have hkn : k < n := by have := HJ.out; omega
      have hkj1 : k < j1 := by have := HJ.out; omega
      have hkj2 : k < j2 := by omega
      have c5 := cell_of_block (i := 5) R.out.row.blk
      rw [HL.out] at c5
      have c5 : wr.cell? ⟨b, 5, none⟩ = some (.slice ra (n + 1) rc) := c5
      have mL := meth_Less wr b ra (n + 1) rc c5
      clear hj2 h0
      by_cases h2 : j2 < n
      · have D4 : decide ((j2 : Int) < (n : Int)) = true := by simp; omega
        have D5 : decide (j2 < n) = true := by simp; omega
        have HLQ := Lib.hid (rowLess_any ra rc hs' j2 j1 wr R.out.row.own (by rw [HL.out]; omega) (by rw [HL.out]; omega) (by rw [HL.out]; omega))
        rw [HL.out] at HLQ
        go_wp2_with fail
        refine HLQ.out.mono ?_
        rintro e w1 ⟨rfl, m1⟩
        have R1 := Lib.hid (R.out.still m1)
        have c5 := m1.cell c5 List.not_mem_nil
        clear R m1 HLQ mL
        have mL := meth_Less w1 b ra (n + 1) rc c5
        by_cases hq : ltH (aH hs' j2) (aH hs' j1)
        · rw [decide_eq_true hq]
          have HQ := Lib.hid hq
          clear hq
          have HLS := Lib.hid (rowLess_any ra rc hs' j2 k w1 R1.out.row.own (by rw [HL.out]; omega) (by rw [HL.out]; omega) (by rw [HL.out]; omega))
          rw [HL.out] at HLS
          go_wp2_with fail
          refine HLS.out.mono ?_
          rintro e w2 ⟨rfl, m2⟩
          have R2 := Lib.hid (R1.out.still m2)
          have c5 := m2.cell c5 List.not_mem_nil
          clear R1 m2 HLS mL
          by_cases hlt : ltH (aH hs' j2) (aH hs' k)
          · rw [decide_eq_true hlt]
            have HLT := Lib.hid hlt
            have HSW := Lib.hid (rowSwap_any ra rc hs' k j2 w2 R2.out.row.own (by rw [HL.out]; omega) (by rw [HL.out]; omega) (by rw [HL.out]; omega))
            rw [HL.out] at HSW
            have mS := meth_Swap w2 b ra (n + 1) rc c5
            clear hlt
            go_wp2_with fail
            refine HSW.out.mono ?_
            rintro e w3 ⟨rfl, o3, m3⟩
            have R3 := Lib.hid (R2.out.swap k j2 (by rw [HL.out]; omega) (by rw [HL.out]; omega) o3 m3)
            have V3 : Hid (DownInv n (swp hs' k j2) j2) := Lib.hid (V.out.step (by rw [HL.out]; omega) (by have := HJ.out; have := HJ2.out; omega) (by omega) HLT.out (by
              have h1 := HJ.out
              have h2 := HJ2.out
              intro q hq hq2
              exact (Decidable.em (q = j2)).elim (fun h => by rw [h]; exact leH.refl _) (fun h => by rw [show q = j1 by omega]; exact HQ.out.le)))
            have L3 : Hid (aH (swp hs' k j2) n = aH hs n) := Lib.hid (by rw [aH_swp hs' k j2 n (by rw [HL.out]; omega) (by rw [HL.out]; omega), if_neg (by omega), if_neg (by omega)]; exact LS.out)
            clear o3 m3 HSW mS
            go_wp2_with fail
            go_roundw
            case rel => exact ⟨j2, swp hs' k j2, rfl, by omega, R3.out, V3.out, L3.out⟩
            case measure => simp [intOf]; have := HJ.out; have := HJ2.out; omega
          · rw [decide_eq_false hlt]
            have HLT := Lib.hid hlt
            clear hlt
            go_wp2_with fail
            go_ret
            refine ⟨⟨_, rfl⟩, hs', R2.out, V.out.halt (fun q hq hq2 => ?_), LS.out⟩
            have h1 := HJ.out
            have h2 := HJ2.out
            refine (not_ltH.1 HLT.out).trans ?_
            exact (Decidable.em (q = j2)).elim (fun h => by rw [h]; exact leH.refl _) (fun h => by rw [show q = j1 by omega]; exact HQ.out.le)
        · rw [decide_eq_false hq]
          have HQ := Lib.hid hq
          clear hq
          have HLS := Lib.hid (rowLess_any ra rc hs' j1 k w1 R1.out.row.own (by rw [HL.out]; omega) (by rw [HL.out]; omega) (by rw [HL.out]; omega))
          rw [HL.out] at HLS
          go_wp2_with fail
          refine HLS.out.mono ?_
          rintro e w2 ⟨rfl, m2⟩
          have R2 := Lib.hid (R1.out.still m2)
          have c5 := m2.cell c5 List.not_mem_nil
          clear R1 m2 HLS mL
          by_cases hlt : ltH (aH hs' j1) (aH hs' k)
          · rw [decide_eq_true hlt]
            have HLT := Lib.hid hlt
            have HSW := Lib.hid (rowSwap_any ra rc hs' k j1 w2 R2.out.row.own (by rw [HL.out]; omega) (by rw [HL.out]; omega) (by rw [HL.out]; omega))
            rw [HL.out] at HSW
            have mS := meth_Swap w2 b ra (n + 1) rc c5
            clear hlt
            go_wp2_with fail
            refine HSW.out.mono ?_
            rintro e w3 ⟨rfl, o3, m3⟩
            have R3 := Lib.hid (R2.out.swap k j1 (by rw [HL.out]; omega) (by rw [HL.out]; omega) o3 m3)
            have V3 : Hid (DownInv n (swp hs' k j1) j1) := Lib.hid (V.out.step (by rw [HL.out]; omega) (by have := HJ.out; have := HJ2.out; omega) (by omega) HLT.out (by
              have h1 := HJ.out
              have h2 := HJ2.out
              intro q hq hq2
              exact (Decidable.em (q = j1)).elim (fun h => by rw [h]; exact leH.refl _) (fun h => by rw [show q = j2 by omega]; exact not_ltH.1 HQ.out)))
            have L3 : Hid (aH (swp hs' k j1) n = aH hs n) := Lib.hid (by rw [aH_swp hs' k j1 n (by rw [HL.out]; omega) (by rw [HL.out]; omega), if_neg (by omega), if_neg (by omega)]; exact LS.out)
            clear o3 m3 HSW mS
            go_wp2_with fail
            go_roundw
            case rel => exact ⟨j1, swp hs' k j1, rfl, by omega, R3.out, V3.out, L3.out⟩
            case measure => simp [intOf]; have := HJ.out; have := HJ2.out; omega
          · rw [decide_eq_false hlt]
            have HLT := Lib.hid hlt
            clear hlt
            go_wp2_with fail
            go_ret
            refine ⟨⟨_, rfl⟩, hs', R2.out, V.out.halt (fun q hq hq2 => ?_), LS.out⟩
            have h1 := HJ.out
            have h2 := HJ2.out
            refine (not_ltH.1 HLT.out).trans ?_
            exact (Decidable.em (q = j1)).elim (fun h => by rw [h]; exact leH.refl _) (fun h => by rw [show q = j2 by omega]; exact not_ltH.1 HQ.out)
      · have D4 : decide ((j2 : Int) < (n : Int)) = false := by simp; omega
        have D5 : decide (j2 < n) = false := by simp; omega
        have HLS := Lib.hid (rowLess_any ra rc hs' j1 k wr R.out.row.own (by rw [HL.out]; omega) (by rw [HL.out]; omega) (by rw [HL.out]; omega))
        rw [HL.out] at HLS
        go_wp2_with fail
        refine HLS.out.mono ?_
        rintro e w2 ⟨rfl, m2⟩
        have R2 := Lib.hid (R.out.still m2)
        have c5 := m2.cell c5 List.not_mem_nil
        clear R m2 HLS mL
        by_cases hlt : ltH (aH hs' j1) (aH hs' k)
        · rw [decide_eq_true hlt]
          have HLT := Lib.hid hlt
          have HSW := Lib.hid (rowSwap_any ra rc hs' k j1 w2 R2.out.row.own (by rw [HL.out]; omega) (by rw [HL.out]; omega) (by rw [HL.out]; omega))
          rw [HL.out] at HSW
          have mS := meth_Swap w2 b ra (n + 1) rc c5
          clear hlt
          go_wp2_with fail
          refine HSW.out.mono ?_
          rintro e w3 ⟨rfl, o3, m3⟩
          have R3 := Lib.hid (R2.out.swap k j1 (by rw [HL.out]; omega) (by rw [HL.out]; omega) o3 m3)
          have V3 : Hid (DownInv n (swp hs' k j1) j1) := Lib.hid (V.out.step (by rw [HL.out]; omega) (by have := HJ.out; have := HJ2.out; omega) (by omega) HLT.out (by
            have h1 := HJ.out
            have h2 := HJ2.out
            intro q hq hq2
            rw [show q = j1 by omega]; exact leH.refl _))
          have L3 : Hid (aH (swp hs' k j1) n = aH hs n) := Lib.hid (by rw [aH_swp hs' k j1 n (by rw [HL.out]; omega) (by rw [HL.out]; omega), if_neg (by omega), if_neg (by omega)]; exact LS.out)
          clear o3 m3 HSW mS
          go_wp2_with fail
          go_roundw
          case rel => exact ⟨j1, swp hs' k j1, rfl, by omega, R3.out, V3.out, L3.out⟩
          case measure => simp [intOf]; have := HJ.out; have := HJ2.out; omega
        · rw [decide_eq_false hlt]
          have HLT := Lib.hid hlt
          clear hlt
          go_wp2_with fail
          go_ret
          refine ⟨⟨_, rfl⟩, hs', R2.out, V.out.halt (fun q hq hq2 => ?_), LS.out⟩
          have h1 := HJ.out
          have h2 := HJ2.out
          refine (not_ltH.1 HLT.out).trans ?_
          rw [show q = j1 by omega]; exact leH.refl _

set_option maxRecDepth 100000 in
set_option maxHeartbeats 2000000 in
theorem heapPush_any (b : Nat) (v0 v1 v2 v3 v4 : Value) (ra : Option Addr) (rc : Nat) (hs : List He) (x : He) (w : World) (h : RowW w b v0 v1 v2 v3 v4 ra rc hs) (hh : Heap hs.length hs) (hm : hs.length ≤ 1000) :
    Calls Tryd.prog 27 #[hpV b, .iface 66 (.agg #[.int .i64 x.1, .int .i64 x.2.1, .int .i64 x.2.2.1, .int .u32 x.2.2.2])] w fun e w' => e = .returned (.tuple #[]) ∧
      ∃ ra' rc' hs', RowW w' b v0 v1 v2 v3 v4 ra' rc' hs' ∧ hs'.Perm (hs ++ [x]) ∧ Heap hs'.length hs' ∧ Mod (b :: blk ra) w w' ∧ SameOrNew w w' ra ra' := by
  have HP := Lib.hid (rowPush_any b v0 v1 v2 v3 v4 ra rc hs x w h (by omega))
  have hba := Lib.hid h.apart
  have HH := Lib.hid (up_start hh x)
  obtain ⟨d, o, i, gn⟩ := x
  obtain ⟨n, hn⟩ : ∃ n, hs.length = n := ⟨_, rfl⟩
  have HN := Lib.hid hn
  rw [hn] at hm
  have hlt := lt_of_block h.blk
  clear h hh hn
  have mP := meth_Push
  go_enter Tryd.func27, Tryd.ntmps27
  go_wp2_with fail
  refine HP.out.mono ?_
  rintro e w1 ⟨rfl, ra1, rc1, r1, m1, n1⟩
  have R1 := Lib.hid r1
  have M1 := Lib.hid m1
  have N1 := Lib.hid n1
  have hl1 : (hs ++ [(d, o, i, gn)]).length = n + 1 := by rw [List.length_append, HN.out]; rfl
  have c5 := cell_of_block (i := 5) r1.blk
  rw [hl1] at c5
  have c5 : w1.cell? ⟨b, 5, none⟩ = some (.slice ra1 (n + 1) rc1) := c5
  have mL := meth_Len w1 b ra1 (n + 1) rc1 c5
  have HLN := Lib.hid (rowLen_any ra1 (n + 1) rc1 w1)
  have HU := Lib.hid (up_any b v0 v1 v2 v3 v4 ra1 rc1 _ n w1 r1 (by rw [hl1]; have := HH.out; rw [HN.out] at this; exact this) (by omega) (by omega))
  have e1 : IntKind.i64.wrap ((n : Int) + 1 - 1) = (n : Int) := by rw [show (n : Int) + 1 - 1 = (n : Int) by omega]; exact IntWalk.i64_in _ (by omega)
  have e2 : IntKind.i64.wrap ((n : Int)) = (n : Int) := IntWalk.i64_in _ (by omega)
  clear r1 m1 n1 mP HP hl1
  go_wp2_with fail
  refine HLN.out.mono ?_
  rintro e w2 ⟨rfl, rfl⟩
  go_wp2_with fail
  refine HU.out.mono ?_
  rintro e w3 ⟨rfl, hs3, r3, h3⟩
  have R3 := Lib.hid r3
  have H3 := Lib.hid h3
  clear r3 h3 HU HLN mL c5
  go_wp2_with fail
  go_end0
  refine ⟨rfl, ra1, rc1, hs3, R3.out.row, R3.out.perm, H3.out, ?_, ?_⟩
  · refine M1.out.trans R3.out.mod (fun k hk hl => ?_)
    rcases N1.out.blk k hk with h | h
    · exact List.mem_cons_of_mem _ h
    · omega
  · rcases N1.out with h | ⟨g, h1, h2, h3⟩
    · exact .inl h
    · exact .inr ⟨g, h1, h2, Nat.lt_of_lt_of_le h3 R3.out.mod.size⟩

set_option maxRecDepth 100000 in
set_option maxHeartbeats 2000000 in
theorem heapPop_any (b : Nat) (v0 v1 v2 v3 v4 : Value) (ra : Option Addr) (rc : Nat) (hs : List He) (x : He) (w : World) (h : RowW w b v0 v1 v2 v3 v4 ra rc hs) (hh : Heap hs.length hs) (h0 : 0 < hs.length) (hx : aH hs 0 = x) (hm : hs.length ≤ 1000) :
    Calls Tryd.prog 33 #[hpV b] w fun e w' => e = .returned (.iface 66 (.agg #[.int .i64 x.1, .int .i64 x.2.1, .int .i64 x.2.2.1, .int .u32 x.2.2.2])) ∧
      ∃ hs', RowW w' b v0 v1 v2 v3 v4 ra rc hs' ∧ (x :: hs').Perm hs ∧ Heap hs'.length hs' ∧ Mod (b :: blk ra) w w' := by
  obtain ⟨n, hn⟩ : ∃ n, hs.length = n + 1 := ⟨hs.length - 1, by omega⟩
  have HSW := Lib.hid (rowSwap_any ra rc hs 0 n w h.own h0 (by omega) (by omega))
  have HLN := Lib.hid (rowLen_any ra (n + 1) rc w)
  have c5 := cell_of_block (i := 5) h.blk
  rw [hn] at c5 HSW hm
  have c5 : w.cell? ⟨b, 5, none⟩ = some (.slice ra (n + 1) rc) := c5
  have mL := meth_Len w b ra (n + 1) rc c5
  have mS := meth_Swap w b ra (n + 1) rc c5
  have H : Hid (HpR w b v0 v1 v2 v3 v4 ra rc hs hs w) := Lib.hid ⟨h, List.Perm.refl _, Mod.refl _ _⟩
  have HN := Lib.hid hn
  have HD := Lib.hid (down_start (n := n) (by rw [← hn]; exact hh) hn.symm)
  have HX := Lib.hid hx
  have e1 : IntKind.i64.wrap ((n : Int) + 1 - 1) = (n : Int) := by rw [show (n : Int) + 1 - 1 = (n : Int) by omega]; exact IntWalk.i64_in _ (by omega)
  have e2 : IntKind.i64.wrap ((n : Int)) = (n : Int) := IntWalk.i64_in _ (by omega)
  clear h hh h0 hn hx
  go_enter Tryd.func33, Tryd.ntmps33
  go_wp2_with fail
  refine HLN.out.mono ?_
  rintro e w1 ⟨rfl, rfl⟩
  go_wp2_with fail
  refine HSW.out.mono ?_
  rintro e w2 ⟨rfl, o2, m2⟩
  have R2 := Lib.hid (H.out.swap 0 n (by rw [HN.out]; omega) (by rw [HN.out]; omega) o2 m2)
  have hl2 : (swp hs 0 n).length = n + 1 := by rw [swp_length, HN.out]
  have HDN := Lib.hid (down_any b v0 v1 v2 v3 v4 ra rc (swp hs 0 n) n w2 R2.out.row HD.out hl2.symm (by omega))
  have HLAST : Hid (aH (swp hs 0 n) n = x) := Lib.hid (by rw [aH_swp hs 0 n n (by rw [HN.out]; omega) (by rw [HN.out]; omega), if_pos rfl]; exact HX.out)
  have HL2 := Lib.hid hl2
  clear o2 m2 HSW HLN mL mS c5 hl2
  go_wp2_with fail
  refine HDN.out.mono ?_
  rintro e w3 ⟨⟨t, rfl⟩, hs3, r3, h3, l3⟩
  have hl3 : hs3.length = n + 1 := by rw [r3.len, HL2.out]
  have HPO := Lib.hid (rowPop_any b v0 v1 v2 v3 v4 ra rc hs3 n w3 r3.row hl3 (by omega))
  rw [l3, HLAST.out] at HPO
  have mP := meth_Pop
  have R3 := Lib.hid r3
  have H3 := Lib.hid h3
  have L3 := Lib.hid l3
  have HL3 := Lib.hid hl3
  clear r3 h3 l3 hl3 HDN
  go_wp2_with fail
  refine HPO.out.mono ?_
  rintro e w4 ⟨rfl, r4, m4⟩
  have R4 := Lib.hid r4
  have M4 := Lib.hid m4
  clear r4 m4 HPO mP
  go_wp2_with fail
  go_ret
  refine ⟨rfl, hs3.take n, R4.out, ?_, ?_, ?_⟩
  · have h1 : hs3.Perm hs := R3.out.perm.trans R2.out.perm
    refine List.Perm.trans ?_ h1
    have h2 : hs3 = hs3.take n ++ [x] := by
      have := take_snoc hs3 n (by rw [HL3.out]; omega)
      rw [List.take_of_length_le (by rw [HL3.out]; omega)] at this
      rw [← aH_get hs3 n (by rw [HL3.out]; omega), L3.out, HLAST.out] at this
      exact this
    refine List.Perm.trans ?_ (List.Perm.of_eq h2.symm)
    exact (List.perm_append_comm (l₁ := [x]) (l₂ := hs3.take n))
  · have e : (hs3.take n).length = n := by rw [List.length_take, HL3.out]; omega
    rw [e]
    intro k h1 h2
    have := H3.out k h1 h2
    have et : ∀ q, q < n → aH (hs3.take n) q = aH hs3 q := fun q hq => by simp [aH, hq]
    rw [et _ (by omega), et k h2]
    exact this
  · refine ((R2.out.mod.weaken (fun _ h => List.mem_cons_of_mem _ h)).trans' (R3.out.mod.weaken (fun _ h => List.mem_cons_of_mem _ h))).trans M4.out (fun k hk _ => by simp at hk; simp [hk])
end Go.Proofs.YtigamomoegpefaaDoor
/- What a batcher keeps, whole: plain facts. -/
namespace Go.Proofs.YtigamomoegpefaaDoor
open Go Go.RowKit Go.Lib

structure BInv (hs : List He) (L : List (Cd × He)) (P : List Bm) (fr : List Nat) (ord : Int) : Prop where
  perm : hs.Perm (L.map (fun e => e.2))
  heap : Heap hs.length hs
  ordr : L.Pairwise (fun a b => a.2.2.1 < b.2.2.1)
  top : ∀ e ∈ L, e.2.2.1 < ord
  pn : P.length = 64
  slot : ∀ e ∈ L, ∃ i : Nat, ∃ h : i < P.length, e.2.2.2.1 = (i : Int) ∧ P[i] = (oneB e.1, e.2.2.2.2, true)
  dist : L.Pairwise (fun a b => a.2.2.2.1 ≠ b.2.2.2.1)
  free : ∀ i ∈ fr, i < 64 ∧ ∀ e ∈ L, e.2.2.2.1 ≠ (i : Int)
  nod : fr.Nodup
  count : fr.length + L.length = 64
  may : ∀ e ∈ L, May e.1 ∧ Wf e.1
theorem BInv.len {hs : List He} {L : List (Cd × He)} {P : List Bm} {fr : List Nat} {ord : Int} (h : BInv hs L P fr ord) : hs.length = L.length := by
  rw [h.perm.length_eq, List.length_map]
theorem BInv.new : BInv [] [] (List.replicate 64 ([], 0, false)) (List.range 64).reverse 0 :=
  ⟨List.Perm.refl _, fun k _ h => absurd h (by simp), List.Pairwise.nil, fun e he => absurd he (by simp), by simp, fun e he => absurd he (by simp), List.Pairwise.nil,
    fun i hi => ⟨by simpa using hi, fun e he => absurd he (by simp)⟩, by decide +kernel, by simp, fun e he => absurd he (by simp)⟩
theorem BInv.put {hs hs' : List He} {L : List (Cd × He)} {P : List Bm} {fr : List Nat} {ord due : Int} {i : Nat} {gn : Int} {c : Cd} (h : BInv hs L P (fr ++ [i]) ord)
    (hp : hs'.Perm (hs ++ [(due, ord, (i : Int), gn)])) (hh : Heap hs'.length hs') (hc : May c ∧ Wf c) :
    BInv hs' (L ++ [(c, due, ord, (i : Int), gn)]) (P.set i (oneB c, gn, true)) fr (ord + 1) := by
  obtain ⟨hi1, hi2⟩ := h.free i (by simp)
  have hnd := List.nodup_append.1 h.nod
  refine ⟨?_, hh, ?_, ?_, by rw [List.length_set]; exact h.pn, ?_, ?_, ?_, hnd.1, ?_, ?_⟩
  · rw [List.map_append]
    exact hp.trans (h.perm.append_right _)
  · rw [List.pairwise_append]
    refine ⟨h.ordr, List.pairwise_singleton _ _, fun a ha b hb => ?_⟩
    simp only [List.mem_singleton] at hb
    subst hb
    exact h.top a ha
  · intro e he
    rcases List.mem_append.1 he with he | he
    · have := h.top e he; omega
    · simp only [List.mem_singleton] at he
      subst he
      show ord < ord + 1
      omega
  · intro e he
    rcases List.mem_append.1 he with he | he
    · obtain ⟨j, hj, e1, e2⟩ := h.slot e he
      have hne : i ≠ j := fun hij => hi2 e he (by rw [e1, hij])
      exact ⟨j, by rw [List.length_set]; exact hj, e1, by rw [List.getElem_set_ne hne]; exact e2⟩
    · simp only [List.mem_singleton] at he
      subst he
      exact ⟨i, by rw [List.length_set, h.pn]; exact hi1, rfl, by rw [List.getElem_set_self]⟩
  · rw [List.pairwise_append]
    refine ⟨h.dist, List.pairwise_singleton _ _, fun a ha b hb => ?_⟩
    simp only [List.mem_singleton] at hb
    subst hb
    exact hi2 a ha
  · intro j hj
    obtain ⟨h1, h2⟩ := h.free j (by simp [hj])
    refine ⟨h1, fun e he => ?_⟩
    rcases List.mem_append.1 he with he | he
    · exact h2 e he
    · simp only [List.mem_singleton] at he
      subst he
      show (i : Int) ≠ (j : Int)
      have := hnd.2.2 j hj i (by simp)
      omega
  · have := h.count
    simp only [List.length_append, List.length_singleton] at this ⊢
    omega
  · intro e he
    rcases List.mem_append.1 he with he | he
    · exact h.may e he
    · simp only [List.mem_singleton] at he
      subst he
      exact hc
/-- The eldest one: where its bytes lie. -/
theorem BInv.eldest {hs : List He} {L : List (Cd × He)} {P : List Bm} {fr : List Nat} {ord : Int} (h : BInv hs L P fr ord) (h0 : 0 < L.length) :
    ∃ c i, ∃ hi : i < P.length, L[eldI (refL L)]? = some (c, aH hs 0) ∧ (aH hs 0).2.2.1 = (i : Int) ∧ P[i] = (oneB c, (aH hs 0).2.2.2, true) ∧ May c ∧ Wf c ∧ (refL L)[eldI (refL L)]? = some (c, (aH hs 0).1) := by
  obtain ⟨⟨c, x⟩, hx, e⟩ := eld_heap h.ordr h.perm h.heap (by rw [h.len]; exact h0)
  obtain rfl : x = aH hs 0 := e
  have hm : (c, aH hs 0) ∈ L := List.mem_of_getElem? hx
  obtain ⟨i, hi, e1, e2⟩ := h.slot _ hm
  refine ⟨c, i, hi, hx, e1, e2, (h.may _ hm).1, (h.may _ hm).2, ?_⟩
  unfold refL
  rw [List.getElem?_map]
  unfold refL at hx
  rw [hx]
  rfl
theorem BInv.take {hs hs' : List He} {L : List (Cd × He)} {P : List Bm} {fr : List Nat} {ord : Int} {i : Nat} {x : He} {c : Cd} {k : Nat} (h : BInv hs L P fr ord)
    (hk : L[k]? = some (c, x)) (hi : x.2.2.1 = (i : Int)) (hi6 : i < P.length) (hp : (x :: hs').Perm hs) (hh : Heap hs'.length hs') :
    BInv hs' (L.eraseIdx k) (P.set i (oneB c, x.2.2.2, false)) (fr ++ [i]) ord := by
  obtain ⟨hlt, hkk⟩ := List.getElem?_eq_some_iff.1 hk
  have hpe := erase_perm L k hlt
  have hsub : ∀ e ∈ L.eraseIdx k, e ∈ L := fun e he => List.mem_of_mem_eraseIdx he
  have hm : (c, x) ∈ L := List.mem_of_getElem? hk
  have hdis : ∀ e ∈ L.eraseIdx k, e.2.2.2.1 ≠ (i : Int) := by
    have h1 := (hpe.pairwise_iff (R := fun a b : Cd × He => a.2.2.2.1 ≠ b.2.2.2.1) (fun hab => Ne.symm hab)).2 h.dist
    rw [List.pairwise_cons] at h1
    intro e he hei
    have := h1.1 e he
    rw [hkk] at this
    exact this (by rw [hei]; exact hi)
  refine ⟨perm_erase h.perm hk hp, hh, h.ordr.sublist (List.eraseIdx_sublist _ _), fun e he => h.top e (hsub e he), by rw [List.length_set]; exact h.pn, ?_, h.dist.sublist (List.eraseIdx_sublist _ _), ?_, ?_, ?_, fun e he => h.may e (hsub e he)⟩
  · intro e he
    obtain ⟨j, hj, e1, e2⟩ := h.slot e (hsub e he)
    have hne : i ≠ j := fun hij => hdis e he (by rw [e1, hij])
    exact ⟨j, by rw [List.length_set]; exact hj, e1, by rw [List.getElem_set_ne hne]; exact e2⟩
  · intro j hj
    rcases List.mem_append.1 hj with hj | hj
    · exact ⟨(h.free j hj).1, fun e he => (h.free j hj).2 e (hsub e he)⟩
    · simp only [List.mem_singleton] at hj
      subst hj
      exact ⟨by rw [← h.pn]; exact hi6, hdis⟩
  · rw [List.nodup_append]
    refine ⟨h.nod, by simp, fun a ha b hb hab => ?_⟩
    simp only [List.mem_singleton] at hb
    subst hb
    subst hab
    exact (h.free a ha).2 _ hm hi
  · have h1 := h.count
    have h2 : (L.eraseIdx k).length = L.length - 1 := by rw [List.length_eraseIdx, if_pos hlt]
    rw [List.length_append, List.length_singleton, h2]
    omega
theorem may_len {c : Cd} (h : May c) : (oneB c).length ≤ 1024 := by
  have h1 : c.keys.length ≤ most c.kind := h.2.2.2.2.1
  have h2 : most c.kind ≤ 16 := by unfold most; split <;> (try split) <;> omega
  have h3 : c.old.size ≤ 64 := h.2.2.2.2.2.1
  have h4 : c.fresh.size ≤ 64 := h.2.2.2.2.2.2.1
  have l1 := (enc7_length c.client).2
  have l2 := (enc7_length c.seq).2
  have l3 := (enc7_length c.kind).2
  have l4 := (enc7_length c.keys.length).2
  have l5 := txB_len c.old
  have l6 := txB_len c.fresh
  have l7 := (enc7_length (zig c.n)).2
  have hk : ∀ k, k ≤ c.keys.length → (keysB (c.keys.take k)).length ≤ 43 * k := by
    intro k
    induction k with
    | zero => intro _; simp [keysB]
    | succ k ih =>
      intro hk
      rw [keysB_snoc c.keys k (by omega), List.length_append]
      have a := ih (by omega)
      have b := txB_len (c.keys[k]'(by omega))
      have d := (h.2.1 _ (List.getElem_mem (l := c.keys) (n := k) (by omega))).2
      omega
  have l8 := hk c.keys.length (Nat.le_refl _)
  rw [List.take_length] at l8
  unfold oneB
  simp only [List.length_append]
  omega

/-- A batcher in memory; F: all its blocks. -/
def BatF (w : World) (b : Nat) (F : List Nat) (ba ag now ord : Int) (hs : List He) (P : List Bm) (fr : List Nat) : Prop :=
  ∃ g Fp ra rc, RowW w b (.int .i64 ba) (.int .i64 ag) (.int .i64 now) (.int .i64 ord) (.pointer (some ⟨g, 0, none⟩)) ra rc hs ∧ PoolW w g Fp 1024 P fr ∧ F = b :: (blk ra ++ Fp) ∧ b ∉ Fp ∧ ∀ k, k ∈ blk ra → k ∉ Fp
theorem BatF.mod {S : List Nat} {w w' : World} {b : Nat} {F : List Nat} {ba ag now ord : Int} {hs : List He} {P : List Bm} {fr : List Nat} (h : BatF w b F ba ag now ord hs P fr) (hm : Mod S w w') (hF : ∀ k, k ∈ F → k ∉ S) : BatF w' b F ba ag now ord hs P fr := by
  obtain ⟨g, Fp, ra, rc, h1, h2, rfl, h3⟩ := h
  exact ⟨g, Fp, ra, rc, h1.mod hm (hF b (by simp)) (fun k hk => hF k (by simp [hk])), h2.mod hm (fun k hk => hF k (by simp [hk])), rfl, h3⟩
theorem BatF.lt {w : World} {b : Nat} {F : List Nat} {ba ag now ord : Int} {hs : List He} {P : List Bm} {fr : List Nat} (h : BatF w b F ba ag now ord hs P fr) : ∀ k, k ∈ F → k < w.heap.size := by
  obtain ⟨g, Fp, ra, rc, h1, h2, rfl, h3⟩ := h
  intro k hk
  simp only [List.mem_cons, List.mem_append] at hk
  rcases hk with rfl | hk | hk
  · exact lt_of_block h1.blk
  · exact Own.lt h1.own k hk
  · exact h2.lt k hk
/-- A batcher: what waits, each with its due time. -/
def BatR (w : World) (b : Nat) (F : List Nat) (ba ag now ord : Int) (R : List (Cd × Int)) : Prop :=
  ∃ hs P fr L, BatF w b F ba ag now ord hs P fr ∧ BInv hs L P fr ord ∧ refL L = R
theorem BatR.mod {S : List Nat} {w w' : World} {b : Nat} {F : List Nat} {ba ag now ord : Int} {R : List (Cd × Int)} (h : BatR w b F ba ag now ord R) (hm : Mod S w w') (hs : ∀ k, k ∈ F → k ∉ S) : BatR w' b F ba ag now ord R := by
  obtain ⟨hs', P, fr, L, h1, h2⟩ := h
  exact ⟨hs', P, fr, L, h1.mod hm hs, h2⟩
theorem BatR.mod0 {w w' : World} {b : Nat} {F : List Nat} {ba ag now ord : Int} {R : List (Cd × Int)} (h : BatR w b F ba ag now ord R) (hm : Mod [] w w') : BatR w' b F ba ag now ord R := h.mod hm (fun _ _ => List.not_mem_nil)
theorem BatR.lt {w : World} {b : Nat} {F : List Nat} {ba ag now ord : Int} {R : List (Cd × Int)} (h : BatR w b F ba ag now ord R) : ∀ k, k ∈ F → k < w.heap.size := by
  obtain ⟨hs', P, fr, L, h1, h2⟩ := h
  exact h1.lt
theorem BatR.len {w : World} {b : Nat} {F : List Nat} {ba ag now ord : Int} {R : List (Cd × Int)} (h : BatR w b F ba ag now ord R) : R.length ≤ 64 := by
  obtain ⟨hs', P, fr, L, h1, h2, rfl⟩ := h
  have := h2.count
  rw [refL_length]
  omega
/-- The batcher's blocks may have turned, and it may have new ones. -/
def BMoved (w w' : World) (b : Nat) (F : List Nat) (ba ag now ord : Int) (R : List (Cd × Int)) : Prop :=
  ∃ F', BatR w' b F' ba ag now ord R ∧ Mod F w w' ∧ ∀ k, k ∈ F' → k ∈ F ∨ w.heap.size ≤ k
theorem BMoved.same {w w' : World} {b : Nat} {F : List Nat} {ba ag now ord : Int} {R : List (Cd × Int)} (h : BatR w b F ba ag now ord R) (hm : Mod [] w w') : BMoved w w' b F ba ag now ord R :=
  ⟨F, h.mod0 hm, hm.nil, fun _ hk => .inl hk⟩
theorem BMoved.later {u w w' : World} {b : Nat} {F : List Nat} {ba ag now ord : Int} {R : List (Cd × Int)} (m : Mod [] u w) (h : BMoved w w' b F ba ag now ord R) : BMoved u w' b F ba ag now ord R := by
  obtain ⟨F', h1, h2, h3⟩ := h
  exact ⟨F', h1, m.nil.trans' h2, fun k hk => (h3 k hk).imp id (fun h => Nat.le_trans m.size h)⟩
/-- May a batch be taken? -/
def readyB (ba now : Int) (R : List (Cd × Int)) : Bool := decide (0 < R.length ∧ (ba ≤ (R.length : Int) ∨ dueOf R (eldI R) ≤ now))
end Go.Proofs.YtigamomoegpefaaDoor
/- The batcher's walks: New, Len, Tick, Ready; of nil. -/
namespace Go.Proofs.YtigamomoegpefaaDoor
open Go Go.RowKit Go.Lib

theorem Cnt.mod {S : List Nat} {w w' : World} (h : Cnt w) (hm : Mod S w w') (hS : 0 ∉ S) : Cnt w' := fun k h1 h2 => ⟨hm.cell (h k h1 h2).1 hS, hm.cell (h k h1 h2).2 hS⟩
theorem Cnt.lt {w : World} (h : Cnt w) : 0 < w.heap.size := World.block_lt_of_cell? w _ (h 1 (by omega) (by omega)).1

set_option maxRecDepth 100000 in
theorem blen_nil (w : World) : Calls Tryd.prog 15 #[.pointer none] w fun e w' => e = .returned (.int .i64 0) ∧ w' = w := by
  go_enter Tryd.func15, Tryd.ntmps15
  go_wp2
  go_ret
  exact ⟨rfl, rfl⟩
set_option maxRecDepth 100000 in
theorem blen_any (b : Nat) (F : List Nat) (ba ag now ord : Int) (R : List (Cd × Int)) (w : World) (h : BatR w b F ba ag now ord R) :
    Calls Tryd.prog 15 #[.pointer (some ⟨b, 0, none⟩)] w fun e w' => e = .returned (.int .i64 (R.length : Int)) ∧ w' = w := by
  obtain ⟨hs, P, fr, L, ⟨g, Fp, ra, rc, h1, -⟩, h2, rfl⟩ := h
  have c5 := cell_of_block (i := 5) h1.blk
  have hl : hs.length = (refL L).length := by rw [h2.len, refL_length]
  rw [hl] at c5
  clear h1 h2 hl
  go_enter Tryd.func15, Tryd.ntmps15
  go_wp2
  go_ret
  exact ⟨rfl, rfl⟩
set_option maxRecDepth 100000 in
theorem btick_nil (w : World) : Calls Tryd.prog 13 #[.pointer none] w fun e w' => e = .returned (.tuple #[]) ∧ w' = w := by
  go_enter Tryd.func13, Tryd.ntmps13
  go_wp2
  go_end0
  exact ⟨rfl, rfl⟩
set_option maxRecDepth 100000 in
theorem btick_any (b : Nat) (F : List Nat) (ba ag now ord : Int) (R : List (Cd × Int)) (w : World) (h : BatR w b F ba ag now ord R) (hn : 0 ≤ now ∧ now ≤ 1000000) :
    Calls Tryd.prog 13 #[.pointer (some ⟨b, 0, none⟩)] w fun e w' => e = .returned (.tuple #[]) ∧ BMoved w w' b F ba ag (now + 1) ord R := by
  have HF := Lib.hid h.lt
  obtain ⟨hs, P, fr, L, ⟨g, Fp, ra, rc, h1, h3, hF, h4, h5⟩, h2, rfl⟩ := h
  have c2 := cell_of_block (i := 2) h1.blk
  have f2 := free_of_block (i := 2) h1.blk
  have e1 : IntKind.i64.wrap (now + 1) = now + 1 := IntWalk.i64_in _ (by omega)
  have H1 := Lib.hid h1
  have H2 := Lib.hid h2
  have H3 := Lib.hid h3
  have H4 := Lib.hid (And.intro h4 h5)
  have HFF := Lib.hid hF
  clear h1 h2 h3 h4 h5 hF
  go_enter Tryd.func13, Tryd.ntmps13
  go_wp2_with fail
  go_end0
  have hb := heap_setCell_same (i := 2) H1.out.blk (.int .i64 (now + 1))
  have m : Mod [b] w (w.setCell ⟨b, 2, none⟩ (.int .i64 (now + 1))) := Mod.setCell _ _ _ (by simp)
  refine ⟨rfl, F, ⟨hs, P, fr, L, ⟨g, Fp, ra, rc, ⟨hb, Own.mod H1.out.own m (fun k hk h => by simp at h; subst h; exact H1.out.apart hk), H1.out.apart⟩, H3.out.mod m (fun k hk h => by simp at h; subst h; exact H4.out.1 hk), HFF.out, H4.out.1, H4.out.2⟩, H2.out, rfl⟩, m.weaken (fun k hk => by simp at hk; subst hk; rw [HFF.out]; simp), fun k hk => .inl hk⟩

set_option maxRecDepth 100000 in
set_option maxHeartbeats 2000000 in
theorem bready_any (b : Nat) (F : List Nat) (ba ag now ord : Int) (R : List (Cd × Int)) (w : World) (h : BatR w b F ba ag now ord R) :
    Calls Tryd.prog 11 #[.pointer (some ⟨b, 0, none⟩)] w fun e w' => e = .returned (.bool (readyB ba now R)) ∧ Mod [] w w' := by
  have H := Lib.hid h
  obtain ⟨t, ht⟩ : ∃ t, readyB ba now R = t := ⟨_, rfl⟩
  have HT := Lib.hid ht
  rw [ht]
  clear ht
  go_enter Tryd.func11, Tryd.ntmps11
  go_upto_region 1 with (fail)
  refine rest_start [] 27 #[false, false, false, false, false, false, false, false, false, false, false, false, false, false, false, false, false, false, false, false, false, false, false, false, false, false, false] rfl (by kernel_rfl) (by kernel_rfl) ?_
  intro w1 m1
  have H1 := Lib.hid (H.out.mod0 m1)
  have HLN := Lib.hid (blen_any b F ba ag now ord R w1 H1.out)
  have M1 := Lib.hid m1
  clear h m1 H
  refine rest_got (i := 0) (v := ?v1) rfl (by kernel_rfl) (by kernel_rfl) (by kernel_rfl) (fun _ _ _ h => h) (by rfl) ?y1 ?r1
  case y1 => (intro w9q hSwq; clear hSwq; go_simp; with_reducible rfl)
  try simp only [Act.put, List.setIfInBounds_toArray, List.set_cons_zero, List.set_cons_succ]
  refine rest_one (i := 1) (by kernel_rfl) rfl (by rfl) ?_
  go_wp2_with fail
  refine HLN.out.mono ?_
  rintro e w2 ⟨rfl, rfl⟩
  go_wp2_with fail
  refine back_to (K1 := []) (Mod.refl _ _) (by simp) ?_
  by_cases h0 : R.length = 0
  · have D1 : decide ((0 : Int) < (R.length : Int)) = false := decide_eq_false (by omega)
    have hr : t = false := by rw [← HT.out]; unfold readyB; exact decide_eq_false (fun h => by obtain ⟨h1, -⟩ := h; omega)
    subst hr
    obtain ⟨n, hn⟩ : ∃ n, R.length = n := ⟨_, rfl⟩
    rw [hn] at h0 D1 HLN ⊢
    have D1' : decide (0 < n) = false := by simp; omega
    clear hn HLN
    refine rest_got (i := 2) (v := ?v2) rfl (by kernel_rfl) (by kernel_rfl) (by kernel_rfl) (fun _ _ _ h => h) (by rfl) ?y2 ?r2
    case y2 => (intro w9q hSwq; clear hSwq; go_simp; with_reducible rfl)
    try simp only [Act.put, List.setIfInBounds_toArray, List.set_cons_zero, List.set_cons_succ]
    refine rest_got (i := 3) (v := ?v3) rfl (by kernel_rfl) (by kernel_rfl) (by kernel_rfl) (fun _ _ _ h => h) (by rfl) ?y3 ?r3
    case y3 => (intro w9q hSwq; clear hSwq; go_simp; with_reducible rfl)
    try simp only [Act.put, List.setIfInBounds_toArray, List.set_cons_zero, List.set_cons_succ]
    refine rest_skip (i := 4) rfl (by kernel_rfl) (by kernel_rfl) (by kernel_rfl) (fun _ _ _ h => h) (by rfl) ?_
    try simp only [Act.put, List.setIfInBounds_toArray, List.set_cons_zero, List.set_cons_succ]
    refine rest_skip (i := 5) rfl (by kernel_rfl) (by kernel_rfl) (by kernel_rfl) (fun _ _ _ h => h) (by rfl) ?_
    try simp only [Act.put, List.setIfInBounds_toArray, List.set_cons_zero, List.set_cons_succ]
    refine rest_skip (i := 6) rfl (by kernel_rfl) (by kernel_rfl) (by kernel_rfl) (fun _ _ _ h => h) (by rfl) ?_
    try simp only [Act.put, List.setIfInBounds_toArray, List.set_cons_zero, List.set_cons_succ]
    refine rest_skip (i := 7) rfl (by kernel_rfl) (by kernel_rfl) (by kernel_rfl) (fun _ _ _ h => h) (by rfl) ?_
    try simp only [Act.put, List.setIfInBounds_toArray, List.set_cons_zero, List.set_cons_succ]
    refine rest_skip (i := 8) rfl (by kernel_rfl) (by kernel_rfl) (by kernel_rfl) (fun _ _ _ h => h) (by rfl) ?_
    try simp only [Act.put, List.setIfInBounds_toArray, List.set_cons_zero, List.set_cons_succ]
    refine rest_skip (i := 9) rfl (by kernel_rfl) (by kernel_rfl) (by kernel_rfl) (fun _ _ _ h => h) (by rfl) ?_
    try simp only [Act.put, List.setIfInBounds_toArray, List.set_cons_zero, List.set_cons_succ]
    refine rest_skip (i := 10) rfl (by kernel_rfl) (by kernel_rfl) (by kernel_rfl) (fun _ _ _ h => h) (by rfl) ?_
    try simp only [Act.put, List.setIfInBounds_toArray, List.set_cons_zero, List.set_cons_succ]
    refine rest_skip (i := 11) rfl (by kernel_rfl) (by kernel_rfl) (by kernel_rfl) (fun _ _ _ h => h) (by rfl) ?_
    try simp only [Act.put, List.setIfInBounds_toArray, List.set_cons_zero, List.set_cons_succ]
    refine rest_skip (i := 12) rfl (by kernel_rfl) (by kernel_rfl) (by kernel_rfl) (fun _ _ _ h => h) (by rfl) ?_
    try simp only [Act.put, List.setIfInBounds_toArray, List.set_cons_zero, List.set_cons_succ]
    refine rest_skip (i := 13) rfl (by kernel_rfl) (by kernel_rfl) (by kernel_rfl) (fun _ _ _ h => h) (by rfl) ?_
    try simp only [Act.put, List.setIfInBounds_toArray, List.set_cons_zero, List.set_cons_succ]
    refine rest_skip (i := 14) rfl (by kernel_rfl) (by kernel_rfl) (by kernel_rfl) (fun _ _ _ h => h) (by rfl) ?_
    try simp only [Act.put, List.setIfInBounds_toArray, List.set_cons_zero, List.set_cons_succ]
    refine rest_skip (i := 15) rfl (by kernel_rfl) (by kernel_rfl) (by kernel_rfl) (fun _ _ _ h => h) (by rfl) ?_
    try simp only [Act.put, List.setIfInBounds_toArray, List.set_cons_zero, List.set_cons_succ]
    refine rest_skip (i := 16) rfl (by kernel_rfl) (by kernel_rfl) (by kernel_rfl) (fun _ _ _ h => h) (by rfl) ?_
    try simp only [Act.put, List.setIfInBounds_toArray, List.set_cons_zero, List.set_cons_succ]
    refine rest_skip (i := 17) rfl (by kernel_rfl) (by kernel_rfl) (by kernel_rfl) (fun _ _ _ h => h) (by rfl) ?_
    try simp only [Act.put, List.setIfInBounds_toArray, List.set_cons_zero, List.set_cons_succ]
    refine rest_skip (i := 18) rfl (by kernel_rfl) (by kernel_rfl) (by kernel_rfl) (fun _ _ _ h => h) (by rfl) ?_
    try simp only [Act.put, List.setIfInBounds_toArray, List.set_cons_zero, List.set_cons_succ]
    refine rest_skip (i := 19) rfl (by kernel_rfl) (by kernel_rfl) (by kernel_rfl) (fun _ _ _ h => h) (by rfl) ?_
    try simp only [Act.put, List.setIfInBounds_toArray, List.set_cons_zero, List.set_cons_succ]
    refine rest_skip (i := 20) rfl (by kernel_rfl) (by kernel_rfl) (by kernel_rfl) (fun _ _ _ h => h) (by rfl) ?_
    try simp only [Act.put, List.setIfInBounds_toArray, List.set_cons_zero, List.set_cons_succ]
    refine rest_skip (i := 21) rfl (by kernel_rfl) (by kernel_rfl) (by kernel_rfl) (fun _ _ _ h => h) (by rfl) ?_
    try simp only [Act.put, List.setIfInBounds_toArray, List.set_cons_zero, List.set_cons_succ]
    refine rest_skip (i := 22) rfl (by kernel_rfl) (by kernel_rfl) (by kernel_rfl) (fun _ _ _ h => h) (by rfl) ?_
    try simp only [Act.put, List.setIfInBounds_toArray, List.set_cons_zero, List.set_cons_succ]
    refine rest_skip (i := 23) rfl (by kernel_rfl) (by kernel_rfl) (by kernel_rfl) (fun _ _ _ h => h) (by rfl) ?_
    try simp only [Act.put, List.setIfInBounds_toArray, List.set_cons_zero, List.set_cons_succ]
    refine rest_skip (i := 24) rfl (by kernel_rfl) (by kernel_rfl) (by kernel_rfl) (fun _ _ _ h => h) (by rfl) ?_
    try simp only [Act.put, List.setIfInBounds_toArray, List.set_cons_zero, List.set_cons_succ]
    refine rest_got (i := 25) (v := ?v4) rfl (by kernel_rfl) (by kernel_rfl) (by kernel_rfl) (fun _ _ _ h => h) (by rfl) ?y4 ?r4
    case y4 => (intro w9q hSwq; clear hSwq; go_simp; with_reducible rfl)
    try simp only [Act.put, List.setIfInBounds_toArray, List.set_cons_zero, List.set_cons_succ]
    refine rest_got (i := 26) (v := ?v5) rfl (by kernel_rfl) (by kernel_rfl) (by kernel_rfl) (fun _ _ _ h => h) (by rfl) ?y5 ?r5
    case y5 => (intro w9q hSwq; clear hSwq; go_simp; with_reducible rfl)
    try simp only [Act.put, List.setIfInBounds_toArray, List.set_cons_zero, List.set_cons_succ]
    refine rest_done (by kernel_rfl) ?_ _
    go_wp2_with fail
    go_ret
    exact ⟨rfl, M1.out⟩
  have D1 : decide ((0 : Int) < (R.length : Int)) = true := decide_eq_true (by omega)
  obtain ⟨hs, P, fr, L, ⟨g, Fp, ra, rc, h1, -⟩, h2, hL⟩ := H1.out
  have hl : hs.length = R.length := by rw [h2.len, ← hL, refL_length]
  obtain ⟨c, i, hi, e1, e2, e3, e4, e5, e6⟩ := h2.eldest (by rw [← refL_length, hL]; omega)
  rw [hL] at e6
  have hdue : dueOf R (eldI R) = (aH hs 0).1 := by unfold dueOf; rw [e6]; rfl
  have c0 := cell_of_block (i := 0) h1.blk
  have c2 := cell_of_block (i := 2) h1.blk
  have c5 := cell_of_block (i := 5) h1.blk
  obtain ⟨g', rfl, ⟨p0, -⟩, -⟩ := h1.own.at' (show 0 < hs.length by omega)
  rw [← hdue] at p0
  rw [hl] at c5
  have HR : Hid (t = decide (0 < R.length ∧ (ba ≤ (R.length : Int) ∨ dueOf R (eldI R) ≤ now))) := Lib.hid HT.out.symm
  obtain ⟨du, hdu⟩ : ∃ x, dueOf R (eldI R) = x := ⟨_, rfl⟩
  rw [hdu] at p0 HR
  obtain ⟨n, hn⟩ : ∃ n, R.length = n := ⟨_, rfl⟩
  rw [hn] at h0 D1 HLN HR c5 ⊢
  have hn0 : (0 : Int) < (n : Int) := by omega
  have hn1 : 0 < n := by omega
  have D1' : decide (0 < n) = true := by simp; omega
  clear hn hdu h1 h2 hl e1 e2 e3 e4 e5 e6 hdue hi hL H1
  refine rest_got (i := 2) (v := ?v6) rfl (by kernel_rfl) (by kernel_rfl) (by kernel_rfl) (fun _ _ _ h => h) (by rfl) ?y6 ?r6
  case y6 => (intro w9q hSwq; clear hSwq; go_simp; with_reducible rfl)
  try simp only [Act.put, List.setIfInBounds_toArray, List.set_cons_zero, List.set_cons_succ]
  refine rest_got (i := 3) (v := ?v7) rfl (by kernel_rfl) (by kernel_rfl) (by kernel_rfl) (fun _ _ _ h => h) (by rfl) ?y7 ?r7
  case y7 => (intro w9q hSwq; clear hSwq; go_simp; with_reducible rfl)
  try simp only [Act.put, List.setIfInBounds_toArray, List.set_cons_zero, List.set_cons_succ]
  refine rest_got (i := 4) (v := ?v8) rfl (by kernel_rfl) (by kernel_rfl) (by kernel_rfl) (fun _ _ _ h => h) (by rfl) ?y8 ?r8
  case y8 => (intro w9q hSwq; clear hSwq; go_simp; with_reducible rfl)
  try simp only [Act.put, List.setIfInBounds_toArray, List.set_cons_zero, List.set_cons_succ]
  refine rest_got (i := 6) (v := ?v9) rfl (by kernel_rfl) (by kernel_rfl) (by kernel_rfl) (fun _ _ _ h => h) (by rfl) ?y9 ?r9
  case y9 => (intro w9q hSwq; clear hSwq; go_simp; with_reducible rfl)
  try simp only [Act.put, List.setIfInBounds_toArray, List.set_cons_zero, List.set_cons_succ]
  refine rest_got (i := 7) (v := ?v10) rfl (by kernel_rfl) (by kernel_rfl) (by kernel_rfl) (fun _ _ _ h => h) (by rfl) ?y10 ?r10
  case y10 => (intro w9q hSwq; clear hSwq; go_simp; with_reducible rfl)
  try simp only [Act.put, List.setIfInBounds_toArray, List.set_cons_zero, List.set_cons_succ]
  refine rest_got (i := 8) (v := ?v11) rfl (by kernel_rfl) (by kernel_rfl) (by kernel_rfl) (fun _ _ _ h => h) (by rfl) ?y11 ?r11
  case y11 => (intro w9q hSwq; clear hSwq; go_simp; with_reducible rfl)
  try simp only [Act.put, List.setIfInBounds_toArray, List.set_cons_zero, List.set_cons_succ]
  refine rest_got (i := 9) (v := ?v12) rfl (by kernel_rfl) (by kernel_rfl) (by kernel_rfl) (fun _ _ _ h => h) (by rfl) ?y12 ?r12
  case y12 => ((intro w9' hm9'; have hc9' := Mod.cell hm9' c0 (by first | exact List.not_mem_nil | assumption | (simp; done) | (simp; omega)); clear hm9'; go_simp; with_reducible rfl))
  try simp only [Act.put, List.setIfInBounds_toArray, List.set_cons_zero, List.set_cons_succ]
  refine rest_one (i := 5) (by kernel_rfl) rfl (by rfl) ?_
  go_wp2_with fail
  refine HLN.out.mono ?_
  rintro e w3 ⟨rfl, rfl⟩
  go_wp2_with fail
  refine back_to (K1 := []) (Mod.refl _ _) (by simp) ?_
  clear HLN
  by_cases hb : ba ≤ (n : Int)
  · have D2 : decide (ba ≤ (n : Int)) = true := decide_eq_true hb
    have ht : t = true := by rw [HR.out]; exact decide_eq_true ⟨by omega, .inl hb⟩
    subst ht
    refine rest_got (i := 10) (v := ?v13) rfl (by kernel_rfl) (by kernel_rfl) (by kernel_rfl) (fun _ _ _ h => h) (by rfl) ?y13 ?r13
    case y13 => (intro w9q hSwq; clear hSwq; go_simp; with_reducible rfl)
    try simp only [Act.put, List.setIfInBounds_toArray, List.set_cons_zero, List.set_cons_succ]
    refine rest_got (i := 11) (v := ?v14) rfl (by kernel_rfl) (by kernel_rfl) (by kernel_rfl) (fun _ _ _ h => h) (by rfl) ?y14 ?r14
    case y14 => (intro w9q hSwq; clear hSwq; go_simp; with_reducible rfl)
    try simp only [Act.put, List.setIfInBounds_toArray, List.set_cons_zero, List.set_cons_succ]
    refine rest_skip (i := 12) rfl (by kernel_rfl) (by kernel_rfl) (by kernel_rfl) (fun _ _ _ h => h) (by rfl) ?_
    try simp only [Act.put, List.setIfInBounds_toArray, List.set_cons_zero, List.set_cons_succ]
    refine rest_skip (i := 13) rfl (by kernel_rfl) (by kernel_rfl) (by kernel_rfl) (fun _ _ _ h => h) (by rfl) ?_
    try simp only [Act.put, List.setIfInBounds_toArray, List.set_cons_zero, List.set_cons_succ]
    refine rest_skip (i := 14) rfl (by kernel_rfl) (by kernel_rfl) (by kernel_rfl) (fun _ _ _ h => h) (by rfl) ?_
    try simp only [Act.put, List.setIfInBounds_toArray, List.set_cons_zero, List.set_cons_succ]
    refine rest_skip (i := 15) rfl (by kernel_rfl) (by kernel_rfl) (by kernel_rfl) (fun _ _ _ h => h) (by rfl) ?_
    try simp only [Act.put, List.setIfInBounds_toArray, List.set_cons_zero, List.set_cons_succ]
    refine rest_skip (i := 16) rfl (by kernel_rfl) (by kernel_rfl) (by kernel_rfl) (fun _ _ _ h => h) (by rfl) ?_
    try simp only [Act.put, List.setIfInBounds_toArray, List.set_cons_zero, List.set_cons_succ]
    refine rest_skip (i := 17) rfl (by kernel_rfl) (by kernel_rfl) (by kernel_rfl) (fun _ _ _ h => h) (by rfl) ?_
    try simp only [Act.put, List.setIfInBounds_toArray, List.set_cons_zero, List.set_cons_succ]
    refine rest_skip (i := 18) rfl (by kernel_rfl) (by kernel_rfl) (by kernel_rfl) (fun _ _ _ h => h) (by rfl) ?_
    try simp only [Act.put, List.setIfInBounds_toArray, List.set_cons_zero, List.set_cons_succ]
    refine rest_skip (i := 19) rfl (by kernel_rfl) (by kernel_rfl) (by kernel_rfl) (fun _ _ _ h => h) (by rfl) ?_
    try simp only [Act.put, List.setIfInBounds_toArray, List.set_cons_zero, List.set_cons_succ]
    refine rest_skip (i := 20) rfl (by kernel_rfl) (by kernel_rfl) (by kernel_rfl) (fun _ _ _ h => h) (by rfl) ?_
    try simp only [Act.put, List.setIfInBounds_toArray, List.set_cons_zero, List.set_cons_succ]
    refine rest_skip (i := 21) rfl (by kernel_rfl) (by kernel_rfl) (by kernel_rfl) (fun _ _ _ h => h) (by rfl) ?_
    try simp only [Act.put, List.setIfInBounds_toArray, List.set_cons_zero, List.set_cons_succ]
    refine rest_skip (i := 22) rfl (by kernel_rfl) (by kernel_rfl) (by kernel_rfl) (fun _ _ _ h => h) (by rfl) ?_
    try simp only [Act.put, List.setIfInBounds_toArray, List.set_cons_zero, List.set_cons_succ]
    refine rest_skip (i := 23) rfl (by kernel_rfl) (by kernel_rfl) (by kernel_rfl) (fun _ _ _ h => h) (by rfl) ?_
    try simp only [Act.put, List.setIfInBounds_toArray, List.set_cons_zero, List.set_cons_succ]
    refine rest_got (i := 24) (v := ?v15) rfl (by kernel_rfl) (by kernel_rfl) (by kernel_rfl) (fun _ _ _ h => h) (by rfl) ?y15 ?r15
    case y15 => (intro w9q hSwq; clear hSwq; go_simp; with_reducible rfl)
    try simp only [Act.put, List.setIfInBounds_toArray, List.set_cons_zero, List.set_cons_succ]
    refine rest_got (i := 25) (v := ?v16) rfl (by kernel_rfl) (by kernel_rfl) (by kernel_rfl) (fun _ _ _ h => h) (by rfl) ?y16 ?r16
    case y16 => (intro w9q hSwq; clear hSwq; go_simp; with_reducible rfl)
    try simp only [Act.put, List.setIfInBounds_toArray, List.set_cons_zero, List.set_cons_succ]
    refine rest_got (i := 26) (v := ?v17) rfl (by kernel_rfl) (by kernel_rfl) (by kernel_rfl) (fun _ _ _ h => h) (by rfl) ?y17 ?r17
    case y17 => (intro w9q hSwq; clear hSwq; go_simp; with_reducible rfl)
    try simp only [Act.put, List.setIfInBounds_toArray, List.set_cons_zero, List.set_cons_succ]
    refine rest_done (by kernel_rfl) ?_ _
    go_wp2_with fail
    go_ret
    exact ⟨rfl, M1.out⟩
  · have D2 : decide (ba ≤ (n : Int)) = false := decide_eq_false hb
    have ht : decide (du ≤ now) = t := by
      rw [HR.out]
      by_cases hd : du ≤ now
      · rw [decide_eq_true hd, decide_eq_true ⟨by omega, .inr hd⟩]
      · rw [decide_eq_false hd, decide_eq_false (fun h => h.2.elim hb hd)]
    refine rest_got (i := 10) (v := ?v18) rfl (by kernel_rfl) (by kernel_rfl) (by kernel_rfl) (fun _ _ _ h => h) (by rfl) ?y18 ?r18
    case y18 => (intro w9q hSwq; clear hSwq; go_simp; with_reducible rfl)
    try simp only [Act.put, List.setIfInBounds_toArray, List.set_cons_zero, List.set_cons_succ]
    refine rest_got (i := 11) (v := ?v19) rfl (by kernel_rfl) (by kernel_rfl) (by kernel_rfl) (fun _ _ _ h => h) (by rfl) ?y19 ?r19
    case y19 => (intro w9q hSwq; clear hSwq; go_simp; with_reducible rfl)
    try simp only [Act.put, List.setIfInBounds_toArray, List.set_cons_zero, List.set_cons_succ]
    refine rest_got (i := 12) (v := ?v20) rfl (by kernel_rfl) (by kernel_rfl) (by kernel_rfl) (fun _ _ _ h => h) (by rfl) ?y20 ?r20
    case y20 => (intro w9q hSwq; clear hSwq; go_simp; with_reducible rfl)
    try simp only [Act.put, List.setIfInBounds_toArray, List.set_cons_zero, List.set_cons_succ]
    refine rest_got (i := 13) (v := ?v21) rfl (by kernel_rfl) (by kernel_rfl) (by kernel_rfl) (fun _ _ _ h => h) (by rfl) ?y21 ?r21
    case y21 => (intro w9q hSwq; clear hSwq; go_simp; with_reducible rfl)
    try simp only [Act.put, List.setIfInBounds_toArray, List.set_cons_zero, List.set_cons_succ]
    refine rest_got (i := 14) (v := ?v22) rfl (by kernel_rfl) (by kernel_rfl) (by kernel_rfl) (fun _ _ _ h => h) (by rfl) ?y22 ?r22
    case y22 => (intro w9q hSwq; clear hSwq; go_simp; with_reducible rfl)
    try simp only [Act.put, List.setIfInBounds_toArray, List.set_cons_zero, List.set_cons_succ]
    refine rest_got (i := 15) (v := ?v23) rfl (by kernel_rfl) (by kernel_rfl) (by kernel_rfl) (fun _ _ _ h => h) (by rfl) ?y23 ?r23
    case y23 => ((intro w9' hm9'; have hc9' := Mod.cell hm9' c5 (by first | exact List.not_mem_nil | assumption | (simp; done) | (simp; omega)); clear hm9'; go_simp; with_reducible rfl))
    try simp only [Act.put, List.setIfInBounds_toArray, List.set_cons_zero, List.set_cons_succ]
    refine rest_got (i := 16) (v := ?v24) rfl (by kernel_rfl) (by kernel_rfl) (by kernel_rfl) (fun _ _ _ h => h) (by rfl) ?y24 ?r24
    case y24 => (intro w9q hSwq; clear hSwq; go_simp; with_reducible rfl)
    try simp only [Act.put, List.setIfInBounds_toArray, List.set_cons_zero, List.set_cons_succ]
    refine rest_got (i := 17) (v := ?v25) rfl (by kernel_rfl) (by kernel_rfl) (by kernel_rfl) (fun _ _ _ h => h) (by rfl) ?y25 ?r25
    case y25 => (intro w9q hSwq; clear hSwq; go_simp; with_reducible rfl)
    try simp only [Act.put, List.setIfInBounds_toArray, List.set_cons_zero, List.set_cons_succ]
    refine rest_got (i := 18) (v := ?v26) rfl (by kernel_rfl) (by kernel_rfl) (by kernel_rfl) (fun _ _ _ h => h) (by rfl) ?y26 ?r26
    case y26 => ((intro w9' hm9'; have hc9' := Mod.cell hm9' p0 (by first | exact List.not_mem_nil | assumption | (simp; done) | (simp; omega)); clear hm9'; go_simp; with_reducible rfl))
    try simp only [Act.put, List.setIfInBounds_toArray, List.set_cons_zero, List.set_cons_succ]
    refine rest_got (i := 19) (v := ?v27) rfl (by kernel_rfl) (by kernel_rfl) (by kernel_rfl) (fun _ _ _ h => h) (by rfl) ?y27 ?r27
    case y27 => (intro w9q hSwq; clear hSwq; go_simp; with_reducible rfl)
    try simp only [Act.put, List.setIfInBounds_toArray, List.set_cons_zero, List.set_cons_succ]
    refine rest_got (i := 20) (v := ?v28) rfl (by kernel_rfl) (by kernel_rfl) (by kernel_rfl) (fun _ _ _ h => h) (by rfl) ?y28 ?r28
    case y28 => (intro w9q hSwq; clear hSwq; go_simp; with_reducible rfl)
    try simp only [Act.put, List.setIfInBounds_toArray, List.set_cons_zero, List.set_cons_succ]
    refine rest_got (i := 21) (v := ?v29) rfl (by kernel_rfl) (by kernel_rfl) (by kernel_rfl) (fun _ _ _ h => h) (by rfl) ?y29 ?r29
    case y29 => (intro w9q hSwq; clear hSwq; go_simp; with_reducible rfl)
    try simp only [Act.put, List.setIfInBounds_toArray, List.set_cons_zero, List.set_cons_succ]
    refine rest_got (i := 22) (v := ?v30) rfl (by kernel_rfl) (by kernel_rfl) (by kernel_rfl) (fun _ _ _ h => h) (by rfl) ?y30 ?r30
    case y30 => ((intro w9' hm9'; have hc9' := Mod.cell hm9' c2 (by first | exact List.not_mem_nil | assumption | (simp; done) | (simp; omega)); clear hm9'; go_simp; with_reducible rfl))
    try simp only [Act.put, List.setIfInBounds_toArray, List.set_cons_zero, List.set_cons_succ]
    refine rest_got (i := 23) (v := ?v31) rfl (by kernel_rfl) (by kernel_rfl) (by kernel_rfl) (fun _ _ _ h => h) (by rfl) ?y31 ?r31
    case y31 => (intro w9q hSwq; clear hSwq; go_simp; with_reducible rfl)
    try simp only [Act.put, List.setIfInBounds_toArray, List.set_cons_zero, List.set_cons_succ]
    refine rest_got (i := 24) (v := ?v32) rfl (by kernel_rfl) (by kernel_rfl) (by kernel_rfl) (fun _ _ _ h => h) (by rfl) ?y32 ?r32
    case y32 => (intro w9q hSwq; clear hSwq; go_simp; with_reducible rfl)
    try simp only [Act.put, List.setIfInBounds_toArray, List.set_cons_zero, List.set_cons_succ]
    refine rest_got (i := 25) (v := ?v33) rfl (by kernel_rfl) (by kernel_rfl) (by kernel_rfl) (fun _ _ _ h => h) (by rfl) ?y33 ?r33
    case y33 => (intro w9q hSwq; clear hSwq; go_simp; with_reducible rfl)
    try simp only [Act.put, List.setIfInBounds_toArray, List.set_cons_zero, List.set_cons_succ]
    refine rest_got (i := 26) (v := ?v34) rfl (by kernel_rfl) (by kernel_rfl) (by kernel_rfl) (fun _ _ _ h => h) (by rfl) ?y34 ?r34
    case y34 => (intro w9q hSwq; clear hSwq; go_simp; with_reducible rfl)
    try simp only [Act.put, List.setIfInBounds_toArray, List.set_cons_zero, List.set_cons_succ]
    refine rest_done (by kernel_rfl) ?_ _
    go_wp2_with fail
    go_ret
    exact ⟨rfl, M1.out⟩

set_option maxRecDepth 100000 in
theorem bready_nil (w : World) : Calls Tryd.prog 11 #[.pointer none] w fun e w' => e = .returned (.bool false) ∧ Mod [] w w' := by
  go_enter Tryd.func11, Tryd.ntmps11
  go_upto_region 1 with (fail)
  refine rest_start [] 27 #[false, false, false, false, false, false, false, false, false, false, false, false, false, false, false, false, false, false, false, false, false, false, false, false, false, false, false] rfl (by kernel_rfl) (by kernel_rfl) ?_
  intro w1 m1
  have M1 := Lib.hid m1
  clear m1
  refine rest_got (i := 0) (v := ?v35) rfl (by kernel_rfl) (by kernel_rfl) (by kernel_rfl) (fun _ _ _ h => h) (by rfl) ?y35 ?r35
  case y35 => (intro w9q hSwq; clear hSwq; go_simp; with_reducible rfl)
  try simp only [Act.put, List.setIfInBounds_toArray, List.set_cons_zero, List.set_cons_succ]
  refine rest_one (i := 1) (by kernel_rfl) rfl (by rfl) ?_
  go_wp2_with fail
  refine (blen_nil w1).mono ?_
  rintro e w2 ⟨rfl, rfl⟩
  go_wp2_with fail
  refine back_to (K1 := []) (Mod.refl _ _) (by simp) ?_
  refine rest_got (i := 2) (v := ?v36) rfl (by kernel_rfl) (by kernel_rfl) (by kernel_rfl) (fun _ _ _ h => h) (by rfl) ?y36 ?r36
  case y36 => (intro w9q hSwq; clear hSwq; go_simp; with_reducible rfl)
  try simp only [Act.put, List.setIfInBounds_toArray, List.set_cons_zero, List.set_cons_succ]
  refine rest_got (i := 3) (v := ?v37) rfl (by kernel_rfl) (by kernel_rfl) (by kernel_rfl) (fun _ _ _ h => h) (by rfl) ?y37 ?r37
  case y37 => (intro w9q hSwq; clear hSwq; go_simp; with_reducible rfl)
  try simp only [Act.put, List.setIfInBounds_toArray, List.set_cons_zero, List.set_cons_succ]
  refine rest_skip (i := 4) rfl (by kernel_rfl) (by kernel_rfl) (by kernel_rfl) (fun _ _ _ h => h) (by rfl) ?_
  try simp only [Act.put, List.setIfInBounds_toArray, List.set_cons_zero, List.set_cons_succ]
  refine rest_skip (i := 5) rfl (by kernel_rfl) (by kernel_rfl) (by kernel_rfl) (fun _ _ _ h => h) (by rfl) ?_
  try simp only [Act.put, List.setIfInBounds_toArray, List.set_cons_zero, List.set_cons_succ]
  refine rest_skip (i := 6) rfl (by kernel_rfl) (by kernel_rfl) (by kernel_rfl) (fun _ _ _ h => h) (by rfl) ?_
  try simp only [Act.put, List.setIfInBounds_toArray, List.set_cons_zero, List.set_cons_succ]
  refine rest_skip (i := 7) rfl (by kernel_rfl) (by kernel_rfl) (by kernel_rfl) (fun _ _ _ h => h) (by rfl) ?_
  try simp only [Act.put, List.setIfInBounds_toArray, List.set_cons_zero, List.set_cons_succ]
  refine rest_skip (i := 8) rfl (by kernel_rfl) (by kernel_rfl) (by kernel_rfl) (fun _ _ _ h => h) (by rfl) ?_
  try simp only [Act.put, List.setIfInBounds_toArray, List.set_cons_zero, List.set_cons_succ]
  refine rest_skip (i := 9) rfl (by kernel_rfl) (by kernel_rfl) (by kernel_rfl) (fun _ _ _ h => h) (by rfl) ?_
  try simp only [Act.put, List.setIfInBounds_toArray, List.set_cons_zero, List.set_cons_succ]
  refine rest_skip (i := 10) rfl (by kernel_rfl) (by kernel_rfl) (by kernel_rfl) (fun _ _ _ h => h) (by rfl) ?_
  try simp only [Act.put, List.setIfInBounds_toArray, List.set_cons_zero, List.set_cons_succ]
  refine rest_skip (i := 11) rfl (by kernel_rfl) (by kernel_rfl) (by kernel_rfl) (fun _ _ _ h => h) (by rfl) ?_
  try simp only [Act.put, List.setIfInBounds_toArray, List.set_cons_zero, List.set_cons_succ]
  refine rest_skip (i := 12) rfl (by kernel_rfl) (by kernel_rfl) (by kernel_rfl) (fun _ _ _ h => h) (by rfl) ?_
  try simp only [Act.put, List.setIfInBounds_toArray, List.set_cons_zero, List.set_cons_succ]
  refine rest_skip (i := 13) rfl (by kernel_rfl) (by kernel_rfl) (by kernel_rfl) (fun _ _ _ h => h) (by rfl) ?_
  try simp only [Act.put, List.setIfInBounds_toArray, List.set_cons_zero, List.set_cons_succ]
  refine rest_skip (i := 14) rfl (by kernel_rfl) (by kernel_rfl) (by kernel_rfl) (fun _ _ _ h => h) (by rfl) ?_
  try simp only [Act.put, List.setIfInBounds_toArray, List.set_cons_zero, List.set_cons_succ]
  refine rest_skip (i := 15) rfl (by kernel_rfl) (by kernel_rfl) (by kernel_rfl) (fun _ _ _ h => h) (by rfl) ?_
  try simp only [Act.put, List.setIfInBounds_toArray, List.set_cons_zero, List.set_cons_succ]
  refine rest_skip (i := 16) rfl (by kernel_rfl) (by kernel_rfl) (by kernel_rfl) (fun _ _ _ h => h) (by rfl) ?_
  try simp only [Act.put, List.setIfInBounds_toArray, List.set_cons_zero, List.set_cons_succ]
  refine rest_skip (i := 17) rfl (by kernel_rfl) (by kernel_rfl) (by kernel_rfl) (fun _ _ _ h => h) (by rfl) ?_
  try simp only [Act.put, List.setIfInBounds_toArray, List.set_cons_zero, List.set_cons_succ]
  refine rest_skip (i := 18) rfl (by kernel_rfl) (by kernel_rfl) (by kernel_rfl) (fun _ _ _ h => h) (by rfl) ?_
  try simp only [Act.put, List.setIfInBounds_toArray, List.set_cons_zero, List.set_cons_succ]
  refine rest_skip (i := 19) rfl (by kernel_rfl) (by kernel_rfl) (by kernel_rfl) (fun _ _ _ h => h) (by rfl) ?_
  try simp only [Act.put, List.setIfInBounds_toArray, List.set_cons_zero, List.set_cons_succ]
  refine rest_skip (i := 20) rfl (by kernel_rfl) (by kernel_rfl) (by kernel_rfl) (fun _ _ _ h => h) (by rfl) ?_
  try simp only [Act.put, List.setIfInBounds_toArray, List.set_cons_zero, List.set_cons_succ]
  refine rest_skip (i := 21) rfl (by kernel_rfl) (by kernel_rfl) (by kernel_rfl) (fun _ _ _ h => h) (by rfl) ?_
  try simp only [Act.put, List.setIfInBounds_toArray, List.set_cons_zero, List.set_cons_succ]
  refine rest_skip (i := 22) rfl (by kernel_rfl) (by kernel_rfl) (by kernel_rfl) (fun _ _ _ h => h) (by rfl) ?_
  try simp only [Act.put, List.setIfInBounds_toArray, List.set_cons_zero, List.set_cons_succ]
  refine rest_skip (i := 23) rfl (by kernel_rfl) (by kernel_rfl) (by kernel_rfl) (fun _ _ _ h => h) (by rfl) ?_
  try simp only [Act.put, List.setIfInBounds_toArray, List.set_cons_zero, List.set_cons_succ]
  refine rest_skip (i := 24) rfl (by kernel_rfl) (by kernel_rfl) (by kernel_rfl) (fun _ _ _ h => h) (by rfl) ?_
  try simp only [Act.put, List.setIfInBounds_toArray, List.set_cons_zero, List.set_cons_succ]
  refine rest_got (i := 25) (v := ?v38) rfl (by kernel_rfl) (by kernel_rfl) (by kernel_rfl) (fun _ _ _ h => h) (by rfl) ?y38 ?r38
  case y38 => (intro w9q hSwq; clear hSwq; go_simp; with_reducible rfl)
  try simp only [Act.put, List.setIfInBounds_toArray, List.set_cons_zero, List.set_cons_succ]
  refine rest_got (i := 26) (v := ?v39) rfl (by kernel_rfl) (by kernel_rfl) (by kernel_rfl) (fun _ _ _ h => h) (by rfl) ?y39 ?r39
  case y39 => (intro w9q hSwq; clear hSwq; go_simp; with_reducible rfl)
  try simp only [Act.put, List.setIfInBounds_toArray, List.set_cons_zero, List.set_cons_succ]
  refine rest_done (by kernel_rfl) ?_ _
  go_wp2_with fail
  go_ret
  exact ⟨rfl, M1.out⟩

/-- A configuration of which there is a batcher. -/
def CfgOk (ba ag : Int) : Prop := 1 ≤ ba ∧ ba ≤ 8 ∧ 1 ≤ ag ∧ ag ≤ 8
instance (ba ag : Int) : Decidable (CfgOk ba ag) := inferInstanceAs (Decidable (_ ∧ _))
set_option maxRecDepth 100000 in
set_option maxHeartbeats 2000000 in
theorem bnew_bad (n wi ba ag sn : Int) (w : World) (hb : ¬ CfgOk ba ag) :
    Calls Tryd.prog 10 #[.agg #[.int .i64 n, .int .i64 wi, .int .i64 ba, .int .i64 ag, .int .i64 sn]] w fun e w' => e = .returned (.tuple #[.pointer none, .int .i64 1]) ∧ Mod [] w w' := by
  have HM := Lib.hid (Mod.alloc [] w (.cells #[.int .i64 n, .int .i64 wi, .int .i64 ba, .int .i64 ag, .int .i64 sn] 23))
  unfold CfgOk at hb
  by_cases h1 : ba < 1
  · clear hb
    go_enter Tryd.func10, Tryd.ntmps10
    go_wp2_with fail
    go_ret2
    exact ⟨rfl, HM.out⟩
  by_cases h2 : 8 < ba
  · clear hb
    go_enter Tryd.func10, Tryd.ntmps10
    go_wp2_with fail
    go_ret2
    exact ⟨rfl, HM.out⟩
  by_cases h3 : ag < 1
  · clear hb
    go_enter Tryd.func10, Tryd.ntmps10
    go_wp2_with fail
    go_ret2
    exact ⟨rfl, HM.out⟩
  · have h4 : 8 < ag := by omega
    clear hb
    go_enter Tryd.func10, Tryd.ntmps10
    go_wp2_with fail
    go_ret2
    exact ⟨rfl, HM.out⟩
set_option maxRecDepth 100000 in
set_option maxHeartbeats 2000000 in
theorem bnew_ok (n wi ba ag sn : Int) (w : World) (hb : CfgOk ba ag) :
    Calls Tryd.prog 10 #[.agg #[.int .i64 n, .int .i64 wi, .int .i64 ba, .int .i64 ag, .int .i64 sn]] w fun e w' => ∃ b F, e = .returned (.tuple #[.pointer (some ⟨b, 0, none⟩), .int .i64 0]) ∧ BatR w' b F ba ag 0 0 [] ∧ Mod [] w w' ∧ ∀ k, k ∈ F → w.heap.size ≤ k := by
  obtain ⟨h1, h2, h3, h4⟩ := hb
  have hm := Mod.alloc [] w (.cells #[.int .i64 n, .int .i64 wi, .int .i64 ba, .int .i64 ag, .int .i64 sn] 23)
  have hbk := heap_alloc_new w (.cells #[.int .i64 n, .int .i64 wi, .int .i64 ba, .int .i64 ag, .int .i64 sn] 23)
  obtain ⟨w1, hw1⟩ : ∃ x, w.alloc (.cells #[.int .i64 n, .int .i64 wi, .int .i64 ba, .int .i64 ag, .int .i64 sn] 23) = x := ⟨_, rfl⟩
  rw [hw1] at hm hbk
  have c2 := cell_of_block (i := 2) hbk
  have c3 := cell_of_block (i := 3) hbk
  have HN := Lib.hid (new_ok 64 1024 w1 (by omega) (by omega) (by omega) (by omega))
  have HB := Lib.hid hbk
  have HM := Lib.hid hm
  clear hm hbk
  go_enter Tryd.func10, Tryd.ntmps10
  go_wp2_with fail
  refine HN.out.mono ?_
  rintro e w2 ⟨g, F, rfl, p2, m2, n2⟩
  have P2 := Lib.hid p2
  have M2 := Lib.hid (HM.out.trans' m2)
  have N2 := Lib.hid n2
  have c2 := m2.cell c2 List.not_mem_nil
  have c3 := m2.cell c3 List.not_mem_nil
  have hs1 : w.heap.size ≤ w1.heap.size := HM.out.size
  clear p2 m2 n2 HN HB hw1
  go_wp2_with fail
  go_ret2
  have hb3 := heap_alloc_new w2 (.cells #[.int .i64 ba, .int .i64 ag, .int .i64 0, .int .i64 0, .pointer (some ⟨g, 0, none⟩), .slice none 0 0] 62)
  have m3 := Mod.alloc [] w2 (.cells #[.int .i64 ba, .int .i64 ag, .int .i64 0, .int .i64 0, .pointer (some ⟨g, 0, none⟩), .slice none 0 0] 62)
  refine ⟨w2.heap.size, w2.heap.size :: (blk none ++ F), rfl, ⟨[], _, _, [], ⟨g, F, none, 0, ⟨hb3, Own.nil0 _ _ _, by simp [blk]⟩, P2.out.mod0 m3, rfl, fun hk => by have := P2.out.lt _ hk; omega, by simp [blk]⟩, BInv.new, rfl⟩, M2.out.trans' m3, ?_⟩
  intro k hk
  simp only [blk, List.nil_append, List.mem_cons] at hk
  rcases hk with rfl | hk
  · exact M2.out.size
  · have := N2.out k hk; omega
end Go.Proofs.YtigamomoegpefaaDoor
/- The batcher's walk: Put. -/
namespace Go.Proofs.YtigamomoegpefaaDoor
open Go Go.RowKit Go.Lib

/-- A command's cells. -/
def CmdAt (w : World) (b : Nat) (c : Cm) : Prop := w.cell? ⟨b, 0, none⟩ = some (.int .u32 (c.1.client : Int)) ∧ w.cell? ⟨b, 1, none⟩ = some (.int .u32 (c.1.seq : Int)) ∧ w.cell? ⟨b, 2, none⟩ = some (.int .u8 (c.1.kind : Int)) ∧
  w.cell? ⟨b, 3, none⟩ = some (.slice c.2.1 c.1.keys.length c.2.2) ∧ w.cell? ⟨b, 4, none⟩ = some (.string c.1.old) ∧ w.cell? ⟨b, 5, none⟩ = some (.string c.1.fresh) ∧ w.cell? ⟨b, 6, none⟩ = some (.int .i64 c.1.n)
theorem CmdAt.mod {S : List Nat} {w w' : World} {b : Nat} {c : Cm} (h : CmdAt w b c) (m : Mod S w w') (hb : b ∉ S) : CmdAt w' b c := by
  obtain ⟨h0, h1, h2, h3, h4, h5, h6⟩ := h
  exact ⟨m.cell h0 hb, m.cell h1 hb, m.cell h2 hb, m.cell h3 hb, m.cell h4 hb, m.cell h5 hb, m.cell h6 hb⟩
theorem CmdAt.mod0 {w w' : World} {b : Nat} {c : Cm} (h : CmdAt w b c) (m : Mod [] w w') : CmdAt w' b c := h.mod m List.not_mem_nil
theorem CmdAt.lt {w : World} {b : Nat} {c : Cm} (h : CmdAt w b c) : b < w.heap.size := World.block_lt_of_cell? w _ h.1
theorem box_at (c : Cm) (w : World) : CmdAt (w.alloc (.cells #[.int .u32 (c.1.client : Int), .int .u32 (c.1.seq : Int), .int .u8 (c.1.kind : Int), .slice c.2.1 c.1.keys.length c.2.2, .string c.1.old, .string c.1.fresh, .int .i64 c.1.n] 36)) w.heap.size c := by
  have hb := heap_alloc_new w (.cells #[.int .u32 (c.1.client : Int), .int .u32 (c.1.seq : Int), .int .u8 (c.1.kind : Int), .slice c.2.1 c.1.keys.length c.2.2, .string c.1.old, .string c.1.fresh, .int .i64 c.1.n] 36)
  exact ⟨cell_of_block hb, cell_of_block hb, cell_of_block hb, cell_of_block hb, cell_of_block hb, cell_of_block hb, cell_of_block hb⟩
theorem small_of_may {c : Cd} (h : May c) : Small c := by
  have h1 : c.keys.length ≤ most c.kind := h.2.2.2.2.1
  have h2 : most c.kind ≤ 16 := by unfold most; split <;> (try split) <;> omega
  have h3 : c.old.size ≤ 64 := h.2.2.2.2.2.1
  have h4 : c.fresh.size ≤ 64 := h.2.2.2.2.2.2.1
  exact ⟨by omega, fun k hk => by have := (h.2.1 k hk).2; omega, by omega, by omega⟩

/-- What a Put answers, and what waits behind it. -/
def putE (ag : Int) (R : List (Cd × Int)) (c : Cd) (wt : Int) : Int := if May c ∧ 0 ≤ wt ∧ wt ≤ ag then (if R.length = 64 then 30 else 0) else 1
def putL (ag now : Int) (R : List (Cd × Int)) (c : Cd) (wt : Int) : List (Cd × Int) := if putE ag R c wt = 0 then R ++ [(c, now + ag - wt)] else R
theorem putL_no {ag now : Int} {R : List (Cd × Int)} {c : Cd} {wt : Int} (h : putE ag R c wt ≠ 0) : putL ag now R c wt = R := if_neg h
def PutW (w : World) (b : Nat) (F : List Nat) (ba ag now ord : Int) (R : List (Cd × Int)) (c : Cd) (wt : Int) (e : Ending) (w' : World) : Prop :=
  e = .returned (.int .i64 (putE ag R c wt)) ∧ ∃ ord', ord ≤ ord' ∧ ord' ≤ ord + 1 ∧ BMoved w w' b F ba ag now ord' (putL ag now R c wt)
theorem PutW.bad {w w' : World} {b : Nat} {F : List Nat} {ba ag now ord : Int} {R : List (Cd × Int)} {c : Cd} {wt v : Int} (h : BatR w b F ba ag now ord R) (hm : Mod [] w w') (hv : putE ag R c wt = v) (h0 : v ≠ 0) : PutW w b F ba ag now ord R c wt (.returned (.int .i64 v)) w' := by
  subst hv
  exact ⟨rfl, ord, by omega, by omega, by rw [putL_no h0]; exact BMoved.same h hm⟩

set_option maxRecDepth 100000 in
theorem bput_nil (c : Cm) (wt : Int) (w : World) : Calls Tryd.prog 14 #[.pointer none, cmdV c, .int .i64 wt] w fun e w' => e = .returned (.int .i64 2) ∧ Mod [] w w' := by
  obtain ⟨⟨client, seq, kind, keys, old, fresh, n⟩, kao, kcap⟩ := c
  have HM := Lib.hid (Mod.alloc [] w (.cells #[.int .u32 (client : Int), .int .u32 (seq : Int), .int .u8 (kind : Int), .slice kao keys.length kcap, .string old, .string fresh, .int .i64 n] 36))
  show Calls Tryd.prog 14 #[.pointer none, .agg #[.int .u32 (client : Int), .int .u32 (seq : Int), .int .u8 (kind : Int), .slice kao keys.length kcap, .string old, .string fresh, .int .i64 n], .int .i64 wt] w fun e w' => e = .returned (.int .i64 2) ∧ Mod [] w w'
  go_enter Tryd.func14, Tryd.ntmps14
  go_wp2_with fail
  go_ret
  exact ⟨rfl, HM.out⟩

set_option maxRecDepth 100000 in
set_option maxHeartbeats 4000000 in
theorem bput_any (b : Nat) (F : List Nat) (ba ag now ord : Int) (R : List (Cd × Int)) (c : Cm) (wt : Int) (w : World) (h : BatR w b F ba ag now ord R) (hag : 0 ≤ ag ∧ ag ≤ 8) (hnow : 0 ≤ now ∧ now ≤ 1000000) (hord : 0 ≤ ord ∧ ord ≤ 1000000)
    (hw : Wf c.1) (hk : SeesT w c.2.1 c.1.keys) (hd : c.1.keys ≠ [] → ∀ k, k ∈ blk c.2.1 → k ∉ F) (ht : Cnt w) :
    Calls Tryd.prog 14 #[.pointer (some ⟨b, 0, none⟩), cmdV c, .int .i64 wt] w (PutW w b F ba ag now ord R c.1 wt) := by
  obtain ⟨⟨client, seq, kind, keys, old, fresh, n⟩, kao, kcap⟩ := c
  obtain ⟨w1, hw1, A1, m1⟩ : ∃ w1, w.alloc (.cells #[.int .u32 (client : Int), .int .u32 (seq : Int), .int .u8 (kind : Int), .slice kao keys.length kcap, .string old, .string fresh, .int .i64 n] 36) = w1 ∧ CmdAt w1 w.heap.size (⟨client, seq, kind, keys, old, fresh, n⟩, kao, kcap) ∧ Mod [] w w1 :=
    ⟨_, rfl, box_at (⟨client, seq, kind, keys, old, fresh, n⟩, kao, kcap) w, Mod.alloc _ _ _⟩
  obtain ⟨v, hv⟩ : ∃ v, putE ag R ⟨client, seq, kind, keys, old, fresh, n⟩ wt = v := ⟨_, rfl⟩
  have HV := Lib.hid hv
  have HBAD : Hid (∀ w' v, Mod [] w w' → putE ag R ⟨client, seq, kind, keys, old, fresh, n⟩ wt = v → v ≠ 0 → PutW w b F ba ag now ord R ⟨client, seq, kind, keys, old, fresh, n⟩ wt (.returned (.int .i64 v)) w') := Lib.hid (fun w' v hm hv h0 => PutW.bad h hm hv h0)
  have HC := Lib.hid (check_any (⟨client, seq, kind, keys, old, fresh, n⟩, kao, kcap) w1 hw (hk.mod0 m1) (ht.mod0 m1))
  have HA := Lib.hid A1
  have M1 := Lib.hid m1
  have H := Lib.hid h
  have HK := Lib.hid hk
  have HD := Lib.hid hd
  have HW := Lib.hid hw
  show Calls Tryd.prog 14 #[.pointer (some ⟨b, 0, none⟩), .agg #[.int .u32 (client : Int), .int .u32 (seq : Int), .int .u8 (kind : Int), .slice kao keys.length kcap, .string old, .string fresh, .int .i64 n], .int .i64 wt] w (PutW w b F ba ag now ord R ⟨client, seq, kind, keys, old, fresh, n⟩ wt)
  obtain ⟨p0, p1, p2, p3, p4, p5, p6⟩ := A1
  dsimp only at p0 p1 p2 p3 p4 p5 p6
  clear h hk hd ht hw m1 hv
  by_cases hmay : May ⟨client, seq, kind, keys, old, fresh, n⟩
  case neg =>
    rw [if_neg hmay] at HC
    have hv1 : putE ag R ⟨client, seq, kind, keys, old, fresh, n⟩ wt = 1 := if_neg (fun h => hmay h.1)
    have HV1 := Lib.hid hv1
    clear hmay hv1
    go_enter Tryd.func14, Tryd.ntmps14
    go_wp2_with fail
    refine HC.out.mono ?_
    rintro e w2 ⟨rfl, m2⟩
    have M2 := Lib.hid (M1.out.trans' m2)
    clear m2
    go_wp2_with fail
    go_ret
    exact HBAD.out _ _ M2.out HV1.out (by decide)
  rw [if_pos hmay] at HC
  have HY := Lib.hid hmay
  by_cases hw0 : wt < 0
  · have HV1 : Hid (putE ag R ⟨client, seq, kind, keys, old, fresh, n⟩ wt = 1) := Lib.hid (if_neg (fun h => by omega))
    clear hmay
    have D : decide (wt < 0) = true := decide_eq_true hw0
    go_enter Tryd.func14, Tryd.ntmps14
    go_wp2_with fail
    refine HC.out.mono ?_
    rintro e w2 ⟨rfl, m2⟩
    have M2 := Lib.hid (M1.out.trans' m2)
    clear m2
    go_wp2_with fail
    go_ret
    exact HBAD.out _ _ M2.out HV1.out (by decide)
  have D0 : decide (wt < 0) = false := decide_eq_false hw0
  have HF : Hid (∀ w', Mod [] w w' → w'.cell? ⟨b, 1, none⟩ = some (.int .i64 ag)) := Lib.hid (fun w' m => by
    obtain ⟨hs, P, fr, L, ⟨g, Fp, ra, rc, h1, -⟩, -⟩ := H.out.mod0 m
    exact cell_of_block (i := 1) h1.blk)
  by_cases hw8 : ag < wt
  · have HV1 : Hid (putE ag R ⟨client, seq, kind, keys, old, fresh, n⟩ wt = 1) := Lib.hid (if_neg (fun h => by omega))
    clear hmay
    have D : decide (ag < wt) = true := decide_eq_true hw8
    go_enter Tryd.func14, Tryd.ntmps14
    go_wp2_with fail
    refine HC.out.mono ?_
    rintro e w2 ⟨rfl, m2⟩
    have M2 := Lib.hid (M1.out.trans' m2)
    have c1 := HF.out w2 M2.out
    clear m2
    go_wp2_with fail
    go_ret
    exact HBAD.out _ _ M2.out HV1.out (by decide)
  have D1 : decide (ag < wt) = false := decide_eq_false hw8
  go_enter Tryd.func14, Tryd.ntmps14
  go_wp2_with fail
  refine HC.out.mono ?_
  rintro e w2 ⟨rfl, m2⟩
  have M2 := Lib.hid (M1.out.trans' m2)
  have A2 := Lib.hid (HA.out.mod0 m2)
  have H2 := Lib.hid (H.out.mod0 M2.out)
  clear m2 p0 p1 p2 p3 p4 p5 p6 HC HA M1 hw1
  obtain ⟨hs, P, fr, L, hF, hI, hL⟩ := H2.out
  obtain ⟨g, Fp, ra, rc, h1, h2, hFe, h4, h5⟩ := hF
  have HI := Lib.hid hI
  have H1 := Lib.hid h1
  have HP := Lib.hid h2
  have HFE := Lib.hid hFe
  have H45 := Lib.hid (And.intro h4 h5)
  have HL := Lib.hid hL
  have c1 := cell_of_block (i := 1) h1.blk
  have c4 := cell_of_block (i := 4) h1.blk
  have hll : R.length = L.length := by rw [← hL, refL_length]
  clear hmay hI h1 h2 hFe h4 h5 hL HF
  by_cases hfull : L.length = 64
  · have hfr : fr = [] := List.eq_nil_of_length_eq_zero (by have := HI.out.count; omega)
    subst hfr
    have HG := Lib.hid (get_fullw g Fp 1024 P w2 HP.out)
    have HV1 : Hid (putE ag R ⟨client, seq, kind, keys, old, fresh, n⟩ wt = 30) := Lib.hid (by
      unfold putE; rw [if_pos ⟨HY.out, by omega, by omega⟩, if_pos (by omega)])
    clear hll
    go_wp2_with fail
    refine HG.out.mono ?_
    rintro e w3 ⟨rfl, m3⟩
    have M3 := Lib.hid (M2.out.trans' m3)
    clear m3
    go_wp2_with fail
    go_ret
    exact HBAD.out _ _ (M3.out.trans' (Mod.alloc _ _ _)) HV1.out (by decide)
  have hne : fr ≠ [] := fun h => by have := HI.out.count; rw [h] at this; simp at this; omega
  obtain ⟨fr', i, rfl⟩ : ∃ fr' i, fr = fr' ++ [i] := ⟨fr.dropLast, fr.getLast hne, (List.dropLast_concat_getLast hne).symm⟩
  have hi : i < P.length := by rw [HI.out.pn]; exact (HI.out.free i (by simp)).1
  have HIP := Lib.hid hi
  have HV0 : Hid (putE ag R ⟨client, seq, kind, keys, old, fresh, n⟩ wt = 0) := Lib.hid (by
      unfold putE; rw [if_pos ⟨HY.out, by omega, by omega⟩, if_neg (by omega)])
  have hG : ∃ gn, Calls Tryd.prog 26 #[.pointer (some ⟨g, 0, none⟩)] w2 fun e w' => e = .returned (.tuple #[.agg #[.int .i64 (i : Int), .int .u32 gn], .int .i64 0]) ∧ PMoved w2 w' g Fp 1024 (P.set i ([], gn, true)) fr' := ⟨_, get_w g Fp 1024 P fr' i hi w2 HP.out⟩
  obtain ⟨gn, hG⟩ := hG
  have HG := Lib.hid hG
  have hsz : ∀ k, k ∈ F → k < w.heap.size := H.out.lt
  have HSZ := Lib.hid hsz
  clear hne hi hG hll hsz hfull HBAD
  go_wp2_with fail
  refine HG.out.mono ?_
  rintro e w3 ⟨rfl, Fp3, hp3, m3, n3⟩
  have HP3 := Lib.hid hp3
  have N3 := Lib.hid n3
  have MM3 := Lib.hid m3
  have R3 := Lib.hid (H1.out.mod m3 H45.out.1 H45.out.2)
  have A3 := Lib.hid (A2.out.mod m3 (fun h => by have := HSZ.out w.heap.size (by rw [HFE.out]; simp [h]); omega))
  have M3 : Hid (Mod F w w3) := Lib.hid (M2.out.nil.trans' (m3.weaken (fun k hk => by rw [HFE.out]; simp [hk])))
  have AL := Lib.hid A2.out.lt
  clear hp3 m3 n3 HG H1 A2 c1 c4
  have hz := heap_alloc_new w3 (.cells #[.int .i64 (i : Int), .int .u32 gn] 64)
  have m4 := Mod.alloc [] w3 (.cells #[.int .i64 (i : Int), .int .u32 gn] 64)
  obtain ⟨w4, hw4⟩ : ∃ x, w3.alloc (.cells #[.int .i64 (i : Int), .int .u32 gn] 64) = x := ⟨_, rfl⟩
  rw [hw4] at hz m4
  go_upto_region 10 with (fail)
  obtain ⟨z, hze⟩ : ∃ x, w3.heap.size = x := ⟨_, rfl⟩
  rw [hze] at hz ⊢
  have R4 := Lib.hid (R3.out.mod m4 List.not_mem_nil (fun _ _ => List.not_mem_nil))
  have A4 := Lib.hid (A3.out.mod0 m4)
  have HP4 := Lib.hid (HP3.out.mod0 m4)
  have M4 : Hid (Mod F w w4) := Lib.hid (M3.out.trans' m4.nil)
  have S4 : Hid (w.heap.size < w2.heap.size ∧ w2.heap.size ≤ w3.heap.size ∧ w3.heap.size = z ∧ z < w4.heap.size ∧ b < w.heap.size) := Lib.hid ⟨AL.out, MM3.out.size, hze, lt_of_block hz, HSZ.out b (by rw [HFE.out]; simp)⟩
  have HZ := Lib.hid hz
  clear hz m4 hw4 hze R3 A3 M3
  refine restu_start 22 [] (b :: blk ra) 23 #[false, false, false, false, false, false, false, false, false, false, false, false, false, false, false, false, false, false, false, false, false, false, false] rfl (by kernel_rfl) (by kernel_rfl) ?_
  intro w5 m5
  have R5 := Lib.hid (R4.out.mod m5 List.not_mem_nil (fun _ _ => List.not_mem_nil))
  have A5 := Lib.hid (A4.out.mod0 m5)
  have HP5 := Lib.hid (HP4.out.mod0 m5)
  have M5 : Hid (Mod F w w5) := Lib.hid (M4.out.trans' m5.nil)
  have HZ5 := Lib.hid (m5.get HZ.out List.not_mem_nil)
  have S5 : Hid (w4.heap.size ≤ w5.heap.size) := Lib.hid m5.size
  clear m5 R4 A4 HP4 M4 HZ
  have c1 := cell_of_block (i := 1) R5.out.blk
  have c2 := cell_of_block (i := 2) R5.out.blk
  have c3 := cell_of_block (i := 3) R5.out.blk
  have z0 := cell_of_block (i := 0) HZ5.out
  have z1 := cell_of_block (i := 1) HZ5.out
  have hzK : z ∉ b :: blk ra := fun hk => by
    have hs4 := S4.out
    rcases List.mem_cons.1 hk with h | h
    · omega
    · have := HSZ.out z (by rw [HFE.out]; simp [h]); omega
  have HPU := Lib.hid (heapPush_any b _ _ _ _ _ ra rc hs (now + ag - wt, ord, (i : Int), gn) w5 R5.out HI.out.heap (by have := HI.out.len; have := HI.out.count; simp at this; omega))
  have e1 : IntKind.i64.wrap (now + ag) = now + ag := IntWalk.i64_in _ (by omega)
  have e2 : IntKind.i64.wrap (now + ag - wt) = now + ag - wt := IntWalk.i64_in _ (by omega)
  clear hzK
  refine restu_got (i := 0) (v := ?v1) rfl (by kernel_rfl) (by kernel_rfl) (by kernel_rfl) (by rfl) (fun _ _ _ h => h) (by rfl) ?y1 ?r1
  case y1 => (intro w9q hSwq; clear hSwq; go_simp; with_reducible rfl)
  try simp only [Act.put, List.setIfInBounds_toArray, List.set_cons_zero, List.set_cons_succ]
  refine restu_got (i := 1) (v := ?v2) rfl (by kernel_rfl) (by kernel_rfl) (by kernel_rfl) (by rfl) (fun _ _ _ h => h) (by rfl) ?y2 ?r2
  case y2 => (intro w9q hSwq; clear hSwq; go_simp; with_reducible rfl)
  try simp only [Act.put, List.setIfInBounds_toArray, List.set_cons_zero, List.set_cons_succ]
  refine restu_got (i := 2) (v := ?v3) rfl (by kernel_rfl) (by kernel_rfl) (by kernel_rfl) (by rfl) (fun _ _ _ h => h) (by rfl) ?y3 ?r3
  case y3 => (intro w9q hSwq; clear hSwq; go_simp; with_reducible rfl)
  try simp only [Act.put, List.setIfInBounds_toArray, List.set_cons_zero, List.set_cons_succ]
  refine restu_got (i := 3) (v := ?v4) rfl (by kernel_rfl) (by kernel_rfl) (by kernel_rfl) (by rfl) (fun _ _ _ h => h) (by rfl) ?y4 ?r4
  case y4 => (intro w9q hSwq; clear hSwq; go_simp; with_reducible rfl)
  try simp only [Act.put, List.setIfInBounds_toArray, List.set_cons_zero, List.set_cons_succ]
  refine restu_got (i := 4) (v := ?v5) rfl (by kernel_rfl) (by kernel_rfl) (by kernel_rfl) (by rfl) (fun _ _ _ h => h) (by rfl) ?y5 ?r5
  case y5 => (intro w9q hSwq; clear hSwq; go_simp; with_reducible rfl)
  try simp only [Act.put, List.setIfInBounds_toArray, List.set_cons_zero, List.set_cons_succ]
  refine restu_got (i := 5) (v := ?v6) rfl (by kernel_rfl) (by kernel_rfl) (by kernel_rfl) (by rfl) (fun _ _ _ h => h) (by rfl) ?y6 ?r6
  case y6 => (intro w9q hSwq; clear hSwq; go_simp; with_reducible rfl)
  try simp only [Act.put, List.setIfInBounds_toArray, List.set_cons_zero, List.set_cons_succ]
  refine restu_got (i := 6) (v := ?v7) rfl (by kernel_rfl) (by kernel_rfl) (by kernel_rfl) (by rfl) (fun _ _ _ h => h) (by rfl) ?y7 ?r7
  case y7 => (intro w9q hSwq; clear hSwq; go_simp; with_reducible rfl)
  try simp only [Act.put, List.setIfInBounds_toArray, List.set_cons_zero, List.set_cons_succ]
  refine restu_early (i := 7) [12, 14, 20, 21, 22] (v := ?v8) rfl (by kernel_rfl) (by kernel_rfl) (by kernel_rfl) (by rfl) (by kernel_rfl) (by rfl) (by kernel_rfl) (fun _ _ _ h => h) (by rfl) ?y8 ?r8
  case y8 => ((intro w9' hm9'; have hc9' := Mod.cell hm9' c2 (by first | exact List.not_mem_nil | assumption | (simp; done) | (simp; omega)); clear hm9'; go_simp; with_reducible rfl))
  try simp only [Act.put, List.setIfInBounds_toArray, List.set_cons_zero, List.set_cons_succ]
  refine restu_got (i := 8) (v := ?v9) rfl (by kernel_rfl) (by kernel_rfl) (by kernel_rfl) (by rfl) (fun _ _ _ h => h) (by rfl) ?y9 ?r9
  case y9 => (intro w9q hSwq; clear hSwq; go_simp; with_reducible rfl)
  try simp only [Act.put, List.setIfInBounds_toArray, List.set_cons_zero, List.set_cons_succ]
  refine restu_got (i := 9) (v := ?v10) rfl (by kernel_rfl) (by kernel_rfl) (by kernel_rfl) (by rfl) (fun _ _ _ h => h) (by rfl) ?y10 ?r10
  case y10 => (intro w9q hSwq; clear hSwq; go_simp; with_reducible rfl)
  try simp only [Act.put, List.setIfInBounds_toArray, List.set_cons_zero, List.set_cons_succ]
  refine restu_got (i := 10) (v := ?v11) rfl (by kernel_rfl) (by kernel_rfl) (by kernel_rfl) (by rfl) (fun _ _ _ h => h) (by rfl) ?y11 ?r11
  case y11 => (intro w9q hSwq; clear hSwq; go_simp; with_reducible rfl)
  try simp only [Act.put, List.setIfInBounds_toArray, List.set_cons_zero, List.set_cons_succ]
  refine restu_early (i := 11) [12, 14, 20, 21, 22] (v := ?v12) rfl (by kernel_rfl) (by kernel_rfl) (by kernel_rfl) (by rfl) (by kernel_rfl) (by rfl) (by kernel_rfl) (fun _ _ _ h => h) (by rfl) ?y12 ?r12
  case y12 => ((intro w9' hm9'; have hc9' := Mod.cell hm9' c1 (by first | exact List.not_mem_nil | assumption | (simp; done) | (simp; omega)); clear hm9'; go_simp; with_reducible rfl))
  try simp only [Act.put, List.setIfInBounds_toArray, List.set_cons_zero, List.set_cons_succ]
  refine restu_got (i := 12) (v := ?v13) rfl (by kernel_rfl) (by kernel_rfl) (by kernel_rfl) (by rfl) (fun _ _ _ h => h) (by rfl) ?y13 ?r13
  case y13 => (intro w9q hSwq; clear hSwq; go_simp; with_reducible rfl)
  try simp only [Act.put, List.setIfInBounds_toArray, List.set_cons_zero, List.set_cons_succ]
  refine restu_got (i := 13) (v := ?v14) rfl (by kernel_rfl) (by kernel_rfl) (by kernel_rfl) (by rfl) (fun _ _ _ h => h) (by rfl) ?y14 ?r14
  case y14 => (intro w9q hSwq; clear hSwq; go_simp; with_reducible rfl)
  try simp only [Act.put, List.setIfInBounds_toArray, List.set_cons_zero, List.set_cons_succ]
  refine restu_got (i := 14) (v := ?v15) rfl (by kernel_rfl) (by kernel_rfl) (by kernel_rfl) (by rfl) (fun _ _ _ h => h) (by rfl) ?y15 ?r15
  case y15 => (intro w9q hSwq; clear hSwq; go_simp; with_reducible rfl)
  try simp only [Act.put, List.setIfInBounds_toArray, List.set_cons_zero, List.set_cons_succ]
  refine restu_got (i := 15) (v := ?v16) rfl (by kernel_rfl) (by kernel_rfl) (by kernel_rfl) (by rfl) (fun _ _ _ h => h) (by rfl) ?y16 ?r16
  case y16 => (intro w9q hSwq; clear hSwq; go_simp; with_reducible rfl)
  try simp only [Act.put, List.setIfInBounds_toArray, List.set_cons_zero, List.set_cons_succ]
  refine restu_got (i := 16) (v := ?v17) rfl (by kernel_rfl) (by kernel_rfl) (by kernel_rfl) (by rfl) (fun _ _ _ h => h) (by rfl) ?y17 ?r17
  case y17 => (intro w9q hSwq; clear hSwq; go_simp; with_reducible rfl)
  try simp only [Act.put, List.setIfInBounds_toArray, List.set_cons_zero, List.set_cons_succ]
  refine restu_got (i := 17) (v := ?v18) rfl (by kernel_rfl) (by kernel_rfl) (by kernel_rfl) (by rfl) (fun _ _ _ h => h) (by rfl) ?y18 ?r18
  case y18 => (intro w9q hSwq; clear hSwq; go_simp; with_reducible rfl)
  try simp only [Act.put, List.setIfInBounds_toArray, List.set_cons_zero, List.set_cons_succ]
  refine restu_early (i := 18) [20, 21, 22] (v := ?v19) rfl (by kernel_rfl) (by kernel_rfl) (by kernel_rfl) (by rfl) (by kernel_rfl) (by rfl) (by kernel_rfl) (fun _ _ _ h => h) (by rfl) ?y19 ?r19
  case y19 => ((intro w9' hm9'; have hc9' := Mod.cell hm9' c3 (by first | exact List.not_mem_nil | assumption | (simp; done) | (simp; omega)); clear hm9'; go_simp; with_reducible rfl))
  try simp only [Act.put, List.setIfInBounds_toArray, List.set_cons_zero, List.set_cons_succ]
  refine restu_early (i := 19) [20, 21, 22] (v := ?v20) rfl (by kernel_rfl) (by kernel_rfl) (by kernel_rfl) (by rfl) (by kernel_rfl) (by rfl) (by kernel_rfl) (fun _ _ _ h => h) (by rfl) ?y20 ?r20
  case y20 => ((intro w9' hm9'; have hc9' := Mod.cell hm9' z0 (by first | exact List.not_mem_nil | assumption | (simp; done) | (simp; omega)); have hd9' := Mod.cell hm9' z1 (by first | exact List.not_mem_nil | assumption | (simp; done) | (simp; omega)); clear hm9'; go_simp; with_reducible rfl))
  try simp only [Act.put, List.setIfInBounds_toArray, List.set_cons_zero, List.set_cons_succ]
  refine restu_got (i := 20) (v := ?v21) rfl (by kernel_rfl) (by kernel_rfl) (by kernel_rfl) (by rfl) (fun _ _ _ h => h) (by rfl) ?y21 ?r21
  case y21 => (intro w9q hSwq; clear hSwq; go_simp; with_reducible rfl)
  try simp only [Act.put, List.setIfInBounds_toArray, List.set_cons_zero, List.set_cons_succ]
  refine restu_got (i := 21) (v := ?v22) rfl (by kernel_rfl) (by kernel_rfl) (by kernel_rfl) (by rfl) (fun _ _ _ h => h) (by rfl) ?y22 ?r22
  case y22 => (intro w9q hSwq; clear hSwq; go_simp; with_reducible rfl)
  try simp only [Act.put, List.setIfInBounds_toArray, List.set_cons_zero, List.set_cons_succ]
  refine restu_one (i := 22) (by kernel_rfl) rfl (by rfl) ?_
  go_wp2_with fail
  refine HPU.out.mono ?_
  rintro e w6 ⟨rfl, ra6, rc6, hs6, r6, p6, h6, m6, n6⟩
  go_wp2_with fail
  refine backm_to (K1 := []) (by kernel_rfl) m6 (by simp) ?_
  have R6 := Lib.hid r6
  have PH6 := Lib.hid (And.intro p6 h6)
  have N6 := Lib.hid n6
  have S6 : Hid (w5.heap.size ≤ w6.heap.size) := Lib.hid m6.size
  have hzK : z ∉ b :: blk ra := fun hk => by
    have hs4 := S4.out
    rcases List.mem_cons.1 hk with h | h
    · omega
    · have := HSZ.out z (by rw [HFE.out]; simp [h]); omega
  have hcK : w.heap.size ∉ b :: blk ra := fun hk => by
    have hs4 := S4.out
    rcases List.mem_cons.1 hk with h | h
    · omega
    · have := HSZ.out w.heap.size (by rw [HFE.out]; simp [h]); omega
  have A6 := Lib.hid (A5.out.mod m6 hcK)
  have HZ6 := Lib.hid (m6.get HZ5.out hzK)
  have hpK : ∀ k, k ∈ Fp3 → k ∉ b :: blk ra := fun k hk h => by
    have hs4 := S4.out
    have hkF : k ∈ F := by rw [HFE.out]; rcases List.mem_cons.1 h with h | h <;> simp [h]
    have hlt := HSZ.out k hkF
    rcases N3.out k hk with h3 | h3
    · rcases List.mem_cons.1 h with h | h
      · subst h; exact H45.out.1 h3
      · exact H45.out.2 k h h3
    · omega
  have HP6 := Lib.hid (HP5.out.mod m6 hpK)
  have M6 : Hid (Mod F w w6) := Lib.hid (M5.out.trans' (m6.weaken (fun k hk => by rw [HFE.out]; rcases List.mem_cons.1 hk with h | h <;> simp [h])))
  have HPK := Lib.hid hpK
  clear r6 p6 h6 m6 n6 hzK hcK hpK c1 c2 c3 z0 z1 e1 e2 R5 A5 HZ5 HP5 M5 HPU
  refine rest_done (by kernel_rfl) ?_ _
  have c3 := cell_of_block (i := 3) R6.out.blk
  have f3 := free_of_block (i := 3) R6.out.blk
  have e3 : IntKind.i64.wrap (ord + 1) = ord + 1 := IntWalk.i64_in _ (by omega)
  go_upto_region 12 with (fail)
  have hb7 := heap_setCell_same (i := 3) R6.out.blk (.int .i64 (ord + 1))
  have m7 : Mod [b] w6 (w6.setCell ⟨b, 3, none⟩ (.int .i64 (ord + 1))) := Mod.setCell _ _ _ (by simp)
  obtain ⟨w7, hw7⟩ : ∃ x, w6.setCell ⟨b, 3, none⟩ (.int .i64 (ord + 1)) = x := ⟨_, rfl⟩
  rw [hw7] at hb7 m7 ⊢
  have hbP : b ∉ Fp3 := fun h => HPK.out b h (by simp)
  have R7 : Hid (RowW w7 b (.int .i64 ba) (.int .i64 ag) (.int .i64 now) (.int .i64 (ord + 1)) (.pointer (some ⟨g, 0, none⟩)) ra6 rc6 hs6) := Lib.hid ⟨hb7, Own.mod R6.out.own m7 (fun k hk h => by simp at h; subst h; exact R6.out.apart hk), R6.out.apart⟩
  have A7 := Lib.hid (A6.out.mod m7 (by have := S4.out; simp; omega))
  have HZ7 := Lib.hid (m7.get HZ6.out (by have := S4.out; simp; omega))
  have HP7 := Lib.hid (HP6.out.mod m7 (fun k hk h => by simp at h; subst h; exact hbP hk))
  have M7 : Hid (Mod F w w7) := Lib.hid (M6.out.trans' (m7.weaken (fun k hk => by simp at hk; subst hk; rw [HFE.out]; simp)))
  have S7 : Hid (w6.heap.size ≤ w7.heap.size) := Lib.hid m7.size
  have HBP := Lib.hid hbP
  clear hb7 m7 hw7 c3 f3 e3 R6 A6 HZ6 HP6 M6 hbP
  refine rest_start Fp3 9 #[false, false, false, false, false, false, false, false, false] rfl (by kernel_rfl) (by kernel_rfl) ?_
  intro w8 m8
  have R8 := Lib.hid (R7.out.mod m8 List.not_mem_nil (fun _ _ => List.not_mem_nil))
  have A8 := Lib.hid (A7.out.mod0 m8)
  have HZ8 := Lib.hid (m8.get HZ7.out List.not_mem_nil)
  have HP8 := Lib.hid (HP7.out.mod0 m8)
  have M8 : Hid (Mod F w w8) := Lib.hid (M7.out.trans' m8.nil)
  have S8 : Hid (w7.heap.size ≤ w8.heap.size) := Lib.hid m8.size
  clear m8 R7 A7 HZ7 HP7 M7
  have c4 := cell_of_block (i := 4) R8.out.blk
  have z0 := cell_of_block (i := 0) HZ8.out
  have z1 := cell_of_block (i := 1) HZ8.out
  have hbP : b ∉ Fp3 := HBP.out
  have hzP : z ∉ Fp3 := fun h => by
    have hs4 := S4.out
    have := HP3.out.lt z h
    omega
  have hcP : w.heap.size ∉ Fp3 := fun h => by
    have hs4 := S4.out
    rcases N3.out _ h with h3 | h3
    · have := HSZ.out w.heap.size (by rw [HFE.out]; simp [h3]); omega
    · omega
  have LA : Hid (∀ w', Mod Fp3 w8 w' → CmdAt w' w.heap.size (⟨client, seq, kind, keys, old, fresh, n⟩, kao, kcap)) := Lib.hid (fun w' m => A8.out.mod m hcP)
  have HKS : Hid (SeesT w8 kao keys) := Lib.hid (HK.out.mod M8.out HD.out)
  have HPT := Lib.hid (put_any none 0 0 [] (⟨client, seq, kind, keys, old, fresh, n⟩, kao, kcap) w8 rfl (OwnB.nil _) (by omega) HW.out (small_of_may HY.out) HKS.out (fun _ j _ h => absurd h List.not_mem_nil))
  clear A8 hcP
  refine rest_got (i := 0) (v := ?v23) rfl (by kernel_rfl) (by kernel_rfl) (by kernel_rfl) (fun _ _ _ h => h) (by rfl) ?y23 ?r23
  case y23 => (intro w9q hSwq; clear hSwq; go_simp; with_reducible rfl)
  try simp only [Act.put, List.setIfInBounds_toArray, List.set_cons_zero, List.set_cons_succ]
  refine rest_got (i := 1) (v := ?v24) rfl (by kernel_rfl) (by kernel_rfl) (by kernel_rfl) (fun _ _ _ h => h) (by rfl) ?y24 ?r24
  case y24 => (intro w9q hSwq; clear hSwq; go_simp; with_reducible rfl)
  try simp only [Act.put, List.setIfInBounds_toArray, List.set_cons_zero, List.set_cons_succ]
  refine rest_got (i := 2) (v := ?v25) rfl (by kernel_rfl) (by kernel_rfl) (by kernel_rfl) (fun _ _ _ h => h) (by rfl) ?y25 ?r25
  case y25 => (intro w9q hSwq; clear hSwq; go_simp; with_reducible rfl)
  try simp only [Act.put, List.setIfInBounds_toArray, List.set_cons_zero, List.set_cons_succ]
  refine rest_got (i := 3) (v := ?v26) rfl (by kernel_rfl) (by kernel_rfl) (by kernel_rfl) (fun _ _ _ h => h) (by rfl) ?y26 ?r26
  case y26 => ((intro w9' hm9'; have hc9' := Mod.cell hm9' c4 (by first | exact List.not_mem_nil | assumption | (simp; done) | (simp; omega)); clear hm9'; go_simp; with_reducible rfl))
  try simp only [Act.put, List.setIfInBounds_toArray, List.set_cons_zero, List.set_cons_succ]
  refine rest_got (i := 4) (v := ?v27) rfl (by kernel_rfl) (by kernel_rfl) (by kernel_rfl) (fun _ _ _ h => h) (by rfl) ?y27 ?r27
  case y27 => ((intro w9' hm9'; have hc9' := Mod.cell hm9' z0 (by first | exact List.not_mem_nil | assumption | (simp; done) | (simp; omega)); have hd9' := Mod.cell hm9' z1 (by first | exact List.not_mem_nil | assumption | (simp; done) | (simp; omega)); clear hm9'; go_simp; with_reducible rfl))
  try simp only [Act.put, List.setIfInBounds_toArray, List.set_cons_zero, List.set_cons_succ]
  refine rest_got (i := 5) (v := ?v28) rfl (by kernel_rfl) (by kernel_rfl) (by kernel_rfl) (fun _ _ _ h => h) (by rfl) ?y28 ?r28
  case y28 => ((intro w9' hm9'; obtain ⟨hc0', hc1', hc2', hc3', hc4', hc5', hc6'⟩ := LA.out w9' hm9'; clear hm9'; go_simp; with_reducible rfl))
  try simp only [Act.put, List.setIfInBounds_toArray, List.set_cons_zero, List.set_cons_succ]
  refine rest_one (i := 6) (by kernel_rfl) rfl (by rfl) ?_
  go_wp2_with fail
  refine HPT.out.mono ?_
  rintro e w9 ⟨ya, yn, yc, rfl, hyn, yo, my, ny⟩
  rw [List.nil_append] at hyn yo
  go_wp2_with fail
  have m9 : Mod [] w8 w9 := my
  refine back_to (K1 := Fp3) m9.nil (fun _ h _ => h) ?_
  have HP9 := Lib.hid (HP8.out.mod0 m9)
  have R9 := Lib.hid (R8.out.mod m9 List.not_mem_nil (fun _ _ => List.not_mem_nil))
  have M9 : Hid (Mod F w w9) := Lib.hid (M8.out.trans' m9.nil)
  have S9 : Hid (w8.heap.size ≤ w9.heap.size) := Lib.hid m9.size
  have hi2 : i < (P.set i ([], gn, true)).length := by rw [List.length_set]; exact HIP.out
  have HST := Lib.hid (set_w g Fp3 1024 (P.set i ([], gn, true)) fr' i gn ya yn yc _ hi2 w9 HP9.out (by rw [List.getElem_set_self]) (by rw [List.getElem_set_self]) hyn yo.sees (by rw [← hyn]; exact may_len HY.out))
  rw [List.set_set] at HST
  clear hyn yo my ny m9 HP8 R8 M8 HPT LA c4 z0 z1 hbP hzP hi2 HKS HZ8
  refine rest_one (i := 7) (by kernel_rfl) rfl (by rfl) ?_
  go_wp2_with fail
  refine HST.out.mono ?_
  rintro e w10 ⟨rfl, Fp10, p10, m10, n10⟩
  go_wp2_with fail
  refine back_to (K1 := []) m10 (by simp) ?_
  have HP10 := Lib.hid p10
  have N10 := Lib.hid n10
  have MM10 := Lib.hid m10
  clear p10 m10 n10 HST
  refine rest_got (i := 8) (v := ?v29) rfl (by kernel_rfl) (by kernel_rfl) (by kernel_rfl) (fun _ _ _ h => h) (by rfl) ?y29 ?r29
  case y29 => (intro w9q hSwq; clear hSwq; go_simp; with_reducible rfl)
  try simp only [Act.put, List.setIfInBounds_toArray, List.set_cons_zero, List.set_cons_succ]
  refine rest_done (by kernel_rfl) ?_ _
  go_wp2_with fail
  go_ret
  have s4 := S4.out
  have s5 := S5.out
  have s6 := S6.out
  have s7 := S7.out
  have s8 := S8.out
  have s9 := S9.out
  have hr6 : ∀ k, k ∈ blk ra6 → k ∈ blk ra ∨ w5.heap.size ≤ k := N6.out.blk
  have hr6l : ∀ k, k ∈ blk ra6 → k < w9.heap.size := Own.lt R9.out.own
  have hF3l := HP3.out.lt
  have hra : ∀ k, k ∈ blk ra → k ∈ F := fun k hk => by rw [HFE.out]; simp [hk]
  have hFp : ∀ k, k ∈ Fp → k ∈ F := fun k hk => by rw [HFE.out]; simp [hk]
  have hr63 : ∀ k, k ∈ blk ra6 → k ∉ Fp3 := fun k hk h => by
    have h3 := hF3l k h
    rcases hr6 k hk with h1 | h1
    · exact HPK.out k h (List.mem_cons_of_mem _ h1)
    · omega
  have hb10 : b ∉ Fp10 := fun h => by
    rcases N10.out b h with h | h
    · exact HBP.out h
    · omega
  have R10 := R9.out.mod MM10.out HBP.out hr63
  refine ⟨by rw [HV0.out]; rfl, ord + 1, by omega, by omega, b :: (blk ra6 ++ Fp10), ⟨hs6, _, fr', L ++ [(⟨client, seq, kind, keys, old, fresh, n⟩, now + ag - wt, ord, (i : Int), gn)], ⟨g, Fp10, ra6, rc6, R10, HP10.out, rfl, hb10, fun k hk h => ?_⟩, ?_, ?_⟩, ?_, ?_⟩
  · rcases N10.out k h with h | h
    · exact hr63 k hk h
    · have := hr6l k hk; omega
  · exact HI.out.put PH6.out.1 PH6.out.2 ⟨HY.out, HW.out⟩
  · unfold putL
    rw [if_pos HV0.out, ← HL.out]
    unfold refL
    rw [List.map_append]
    rfl
  · refine M9.out.trans MM10.out (fun k hk hl => ?_)
    rcases N3.out k hk with h | h
    · exact hFp k h
    · omega
  · intro k hk
    simp only [List.mem_cons, List.mem_append] at hk
    rcases hk with rfl | hk | hk
    · left; rw [HFE.out]; simp
    · rcases hr6 k hk with h | h
      · exact .inl (hra k h)
      · right; omega
    · rcases N10.out k hk with h | h
      · rcases N3.out k h with h | h
        · exact .inl (hFp k h)
        · right; omega
      · right; omega
end Go.Proofs.YtigamomoegpefaaDoor
/- Plain laws: what is written is read, what is read is written. No program in sight. -/
namespace Go.Proofs.YtigamomoegpefaaDoor
open Go Go.RowKit

theorem pow_step (i : Nat) : 2 ^ (7 * (i + 1)) = 128 * 2 ^ (7 * i) := by rw [Nat.mul_add, Nat.pow_add, Nat.mul_comm]
theorem pow_back (i : Nat) (h : i ≤ 8) : 2 ^ (64 - 7 * i) = 128 * 2 ^ (64 - 7 * (i + 1)) := by
  have : 64 - 7 * i = 7 + (64 - 7 * (i + 1)) := by omega
  rw [this, Nat.pow_add]
theorem toNat_of (n : Nat) (h : n < 256) : (UInt8.ofNat n).toNat = n := by rw [UInt8.toNat_ofNat']; omega

theorem uintR_write (k : Nat) : ∀ (i acc v : Nat) (rest : List UInt8), i + k + 1 = 10 → v < 2 ^ (64 - 7 * i) → (0 < i → 0 < v) →
    uintR (k + 1) i acc (enc7 v ++ rest) = (acc + v * 2 ^ (7 * i), 0, rest) := by
  induction k with
  | zero =>
    intro i acc v rest hi hv h0
    have hi9 : i = 9 := by omega
    subst hi9
    have hv2 : v < 2 := by simpa using hv
    rw [enc7_small v (by omega)]
    have hn := toNat_of v (by omega)
    have := h0 (by omega)
    simp only [List.singleton_append, uintR, hn]
    rw [if_neg (by omega), if_pos (by omega), Nat.mod_eq_of_lt (by omega)]
  | succ k ih =>
    intro i acc v rest hi hv h0
    by_cases hs : v < 128
    · rw [enc7_small v hs]
      have hn := toNat_of v (by omega)
      simp only [List.singleton_append, uintR, hn]
      rw [if_neg (by rintro (⟨h, _⟩ | ⟨h, h2⟩); omega; have := h0 h; omega), if_pos hs, Nat.mod_eq_of_lt (by omega)]
    · have h64 : v < 18446744073709551616 := by
        have : 2 ^ (64 - 7 * i) ≤ 2 ^ 64 := Nat.pow_le_pow_right (by omega) (by omega)
        omega
      rw [enc7_big v (by omega) h64, List.cons_append]
      have hn := toNat_of (128 + v % 128) (by omega)
      have hu : uintR (k + 1 + 1) i acc (UInt8.ofNat (128 + v % 128) :: (enc7 (v / 128) ++ rest)) = uintR (k + 1) (i + 1) (acc + v % 128 * 2 ^ (7 * i)) (enc7 (v / 128) ++ rest) := by
        rw [uintR, hn, if_neg (by omega), if_neg (by omega), Nat.add_mod_left, Nat.mod_mod]
      have hb := pow_back i (by omega)
      rw [hu, ih (i + 1) _ (v / 128) rest (by omega) (by omega) (by omega), pow_step]
      have e : v % 128 * 2 ^ (7 * i) + v / 128 * (128 * 2 ^ (7 * i)) = v * 2 ^ (7 * i) := by
        rw [← Nat.mul_assoc, ← Nat.add_mul]
        congr 1
        omega
      rw [Nat.add_assoc, e]
theorem uintE_write (v : Nat) (rest : List UInt8) (h : v < 18446744073709551616) : uintE 10 0 0 0 (enc7 v ++ rest) = (v, 0, rest) := by
  have := uintR_write 9 0 0 v rest rfl (by simpa using h) (by omega)
  simpa [uintE] using this

theorem uintR_read (k : Nat) : ∀ (i acc n : Nat) (l r : List UInt8), i + k + 1 = 10 → uintR (k + 1) i acc l = (n, 0, r) →
    ∃ v, v < 2 ^ (64 - 7 * i) ∧ (0 < i → 0 < v) ∧ n = acc + v * 2 ^ (7 * i) ∧ l = enc7 v ++ r := by
  induction k with
  | zero =>
    intro i acc n l r hi h
    have hi9 : i = 9 := by omega
    subst hi9
    cases l with
    | nil => simp [uintR] at h
    | cons c l =>
      rw [uintR] at h
      split at h
      · simp at h
      · rename_i hbad
        split at h
        · simp only [Prod.mk.injEq, true_and] at h
          obtain ⟨rfl, rfl⟩ := h
          refine ⟨c.toNat, by simp; omega, by omega, ?_, ?_⟩
          · rw [Nat.mod_eq_of_lt (by omega)]
          · rw [enc7_small _ (by omega)]; simp
        · exfalso; omega
  | succ k ih =>
    intro i acc n l r hi h
    cases l with
    | nil => simp [uintR] at h
    | cons c l =>
      rw [uintR] at h
      split at h
      · simp at h
      · rename_i hbad
        have hb := pow_back i (by omega)
        have hpos : 0 < 2 ^ (64 - 7 * (i + 1)) := Nat.pow_pos (by omega)
        split at h
        · rename_i h128
          simp only [Prod.mk.injEq, true_and] at h
          obtain ⟨rfl, rfl⟩ := h
          refine ⟨c.toNat, by omega, by omega, ?_, ?_⟩
          · rw [Nat.mod_eq_of_lt h128]
          · rw [enc7_small _ h128]; simp
        · rename_i h128
          obtain ⟨v, hv, h0, rfl, rfl⟩ := ih _ _ _ _ _ (by omega) h
          have hc := c.toNat_lt
          have hv0 := h0 (by omega)
          have hp := pow_step i
          refine ⟨c.toNat % 128 + 128 * v, by omega, by omega, ?_, ?_⟩
          · rw [hp, Nat.add_mul, Nat.add_assoc]
            congr 2
            rw [Nat.mul_comm 128 v, Nat.mul_assoc]
          · have h64 : c.toNat % 128 + 128 * v < 18446744073709551616 := by
              have : 2 ^ (64 - 7 * i) ≤ 2 ^ 64 := Nat.pow_le_pow_right (by omega) (by omega)
              omega
            have e1 : (c.toNat % 128 + 128 * v) / 128 = v := by omega
            have e2 : 128 + (c.toNat % 128 + 128 * v) % 128 = c.toNat := by omega
            rw [enc7_big _ (by omega) h64, e1, e2]
            simp
theorem uintE_read (n : Nat) (l r : List UInt8) (h : uintE 10 0 0 0 l = (n, 0, r)) : l = enc7 n ++ r := by
  obtain ⟨v, _, _, h1, h2⟩ := uintR_read 9 0 0 n l r rfl (by simpa [uintE] using h)
  simp at h1
  rw [h1]; exact h2
theorem enc7_inj (n m : Nat) (hn : n < 18446744073709551616) (hm : m < 18446744073709551616) (h : enc7 n = enc7 m) : n = m := by
  have h1 := uintE_write n [] hn
  have h2 := uintE_write m [] hm
  rw [h, h2] at h1
  simp at h1
  exact h1.symm
theorem zag_zig (m : Int) : zag (zig m) = m := by
  unfold zag zig
  split <;> split <;> omega
/-- A text that is written, read. -/
theorem textR_write (lim : Int) (t rest : List UInt8) (h : (t.length : Int) ≤ lim) (h2 : t.length < 18446744073709551616) : textR lim 0 (enc7 t.length ++ t ++ rest) = (t, 0, rest) := by
  unfold textR
  rw [List.append_assoc, uintE_write _ _ h2]
  simp only [ne_eq, not_true_eq_false, if_false]
  rw [if_neg (by omega), if_neg (by simp)]
  simp
/-- Without its last byte. -/
theorem textR_short (lim : Int) (t : List UInt8) (h : (t.length : Int) ≤ lim) (h2 : t.length < 18446744073709551616) : (textR lim 0 (enc7 t.length ++ t).dropLast).2.1 = 10 := by
  by_cases ht : t = []
  · subst ht
    have : (enc7 ([] : List UInt8).length ++ []).dropLast = [] := by decide
    rw [this]
    rfl
  · have e : (enc7 t.length ++ t).dropLast = enc7 t.length ++ t.dropLast := by rw [List.dropLast_append_of_ne_nil ht]
    have hp : 0 < t.length := List.length_pos_iff.2 ht
    unfold textR
    rw [e, uintE_write _ _ h2]
    simp only [ne_eq, not_true_eq_false, if_false]
    rw [if_neg (by omega), if_pos (by simp; omega)]
end Go.Proofs.YtigamomoegpefaaDoor
/- What a command's bytes are read as (the reader's limit is 1024). No walk. -/
namespace Go.Proofs.YtigamomoegpefaaDoor
open Go Go.RowKit Go.Lib

theorem zig_zag (n : Nat) : zig (zag n) = n := by
  unfold zig zag
  split <;> split <;> omega
theorem txt_eta (t : ByteArray) : (⟨t.data.toList.toArray⟩ : ByteArray) = t := (str_eta t).symm
theorem txB_write (t : ByteArray) (rest : List UInt8) (h : t.size ≤ 1024) : textR 1024 0 (txB t ++ rest) = (t.data.toList, 0, rest) := by
  have h1 := textR_write 1024 t.data.toList rest (by rw [size_data]; omega) (by rw [size_data]; omega)
  rw [size_data] at h1
  exact h1
theorem keysB_cons (t : ByteArray) (l : List ByteArray) : keysB (t :: l) = txB t ++ keysB l := rfl
theorem keysR_write (ks : List ByteArray) (rest : List UInt8) (h : ∀ t ∈ ks, t.size ≤ 1024) : ∀ k, k ≤ ks.length → keysR k 0 (keysB ks ++ rest) = (ks.take k, 0, keysB (ks.drop k) ++ rest) := by
  intro k
  induction k with
  | zero => intro _; rfl
  | succ k ih =>
    intro hk
    have ih := ih (by omega)
    have hd : ks.drop k = ks[k] :: ks.drop (k + 1) := (List.drop_eq_getElem_cons (by omega))
    show ((keysR k 0 (keysB ks ++ rest)).1 ++ [(⟨(textR 1024 (keysR k 0 (keysB ks ++ rest)).2.1 (keysR k 0 (keysB ks ++ rest)).2.2).1.toArray⟩ : ByteArray)], (textR 1024 (keysR k 0 (keysB ks ++ rest)).2.1 (keysR k 0 (keysB ks ++ rest)).2.2).2.1, (textR 1024 (keysR k 0 (keysB ks ++ rest)).2.1 (keysR k 0 (keysB ks ++ rest)).2.2).2.2) = _
    rw [ih]
    dsimp only
    rw [hd, keysB_cons, List.append_assoc, txB_write _ _ (h _ (List.getElem_mem (by omega)))]
    dsimp only
    rw [txt_eta, ← take_snoc ks k (by omega)]
/-- What is written is read. -/
theorem takeR_write' (c : Cd) (hm : May c) (hw : Wf c) (tail : List UInt8) (n8 : Nat) (e8 : Int) (l8 : List UInt8) (h8 : uintE 10 0 0 0 tail = (n8, e8, l8)) :
    takeR 0 (enc7 c.client ++ enc7 c.seq ++ enc7 c.kind ++ enc7 c.keys.length ++ keysB c.keys ++ txB c.old ++ txB c.fresh ++ tail) = ((⟨c.client, c.seq, c.kind, c.keys, c.old, c.fresh, zag n8⟩, true), e8, l8) := by
  have k1 : c.client ≤ 4294967295 := by have := hw.client; omega
  have k2 : c.seq ≤ 4294967295 := by have := hw.seq; omega
  have k3 : c.kind ≤ 255 := by have := hw.kind; omega
  have k4 : c.keys.length ≤ 16 := by
    have h1 : c.keys.length ≤ most c.kind := hm.2.2.2.2.1
    have h2 : most c.kind ≤ 16 := by unfold most; split <;> (try split) <;> omega
    omega
  have k5 : ∀ t ∈ c.keys, t.size ≤ 1024 := fun t ht => by have := (hm.2.1 t ht).2; omega
  have k6 : c.old.size ≤ 1024 := by have : c.old.size ≤ 64 := hm.2.2.2.2.2.1; omega
  have k7 : c.fresh.size ≤ 1024 := by have : c.fresh.size ≤ 64 := hm.2.2.2.2.2.2.1; omega
  have hk := keysR_write c.keys (txB c.old ++ (txB c.fresh ++ tail)) k5 c.keys.length (Nat.le_refl _)
  rw [List.take_length, List.drop_length] at hk
  have hk' : keysR c.keys.length 0 (keysB c.keys ++ (txB c.old ++ (txB c.fresh ++ tail))) = (c.keys, 0, txB c.old ++ (txB c.fresh ++ tail)) := hk
  simp only [List.append_assoc]
  unfold takeR
  dsimp only
  rw [uintE_write c.client _ (by omega)]
  dsimp only
  rw [uintE_write c.seq _ (by omega)]
  dsimp only
  rw [uintE_write c.kind _ (by omega)]
  dsimp only
  rw [uintE_write c.keys.length _ (by omega)]
  dsimp only
  rw [if_pos ⟨k1, k2, k3, k4⟩, hk']
  dsimp only
  rw [txB_write _ _ k6]
  dsimp only
  rw [txB_write _ _ k7]
  dsimp only
  rw [h8]
theorem takeR_write (c : Cd) (hm : May c) (hw : Wf c) (rest : List UInt8) : takeR 0 (oneB c ++ rest) = ((c, true), 0, rest) := by
  have h := takeR_write' c hm hw (enc7 (zig c.n) ++ rest) (zig c.n) 0 rest (uintE_write _ _ (zig_lt _ hw.lo hw.hi))
  rw [zag_zig] at h
  unfold oneB
  rw [List.append_assoc _ (enc7 (zig c.n)) rest]
  exact h
end Go.Proofs.YtigamomoegpefaaDoor
