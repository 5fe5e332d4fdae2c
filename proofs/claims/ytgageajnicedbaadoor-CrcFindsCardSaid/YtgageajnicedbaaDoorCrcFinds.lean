/- The walk of the law CrcFinds. -/
import Derived.Test.YtgageajnicedbaaDoorCrcTells
import Derived.Test.YtgageajnicedbaaDoorCrcBurst
import Derived.StillTailTactics
import Derived.Deep.RegionWith
import Derived.BigRegion
import Derived.Deep.DeepCutAuto
import Derived.Deep.CutBlock
namespace Go.Proofs.YtgageajnicedbaaDoor
open Go Go.RowKit

set_option maxRecDepth 100000 in
set_option maxHeartbeats 4000000 in
theorem crcFinds_any (ao bo : Option Addr) (la lb ca cb : Nat) (at' mask : Nat) (a b : List UInt8) (w : World) (hla : a.length = la) (hlb : b.length = lb) (hca : la ≤ ca) (hcb : lb ≤ cb) (hma : ca ≤ 9223372036854775807) (hmb : cb ≤ 9223372036854775807)
    (hat : at' < 65536) (hmask : mask < 4294967296)
    (hT : TableAt w T0) (hA : Sees w ao a) (hB : Sees w bo b) :
    Calls Tryd.prog 4 #[.slice ao la ca, .slice bo lb cb, .int .u16 at', .int .u32 mask] w fun e w' => e = .returned (.bool true) ∧ Mod [] w w' := by
  subst hla hlb
  have HT := Lib.hid hT
  have HA := Lib.hid hA
  have HB := Lib.hid hB
  clear hT hA hB
  by_cases h5a : 5000 < a.length
  · go_enter Tryd.func4, Tryd.ntmps4
    go_wp2_with (go_at_call 5; refine (wakes_any _ HT.out).mono ?_; rintro e w1 ⟨rfl, hm1⟩)
    go_ret
    exact ⟨rfl, by assumption⟩
  by_cases h5b : 5000 < b.length
  · go_enter Tryd.func4, Tryd.ntmps4
    go_wp2_with (go_at_call 5; refine (wakes_any _ HT.out).mono ?_; rintro e w1 ⟨rfl, hm1⟩)
    go_ret
    exact ⟨rfl, by assumption⟩
  go_enter Tryd.func4, Tryd.ntmps4
  go_upto_if 30 with (first | (at_builtin; refine wpl_app8 (dst := some 27) _ _ none 0 0 [] rfl rfl (OwnB.nil _) ao _ ca a rfl rfl HA.out (by omega) ?_; intro a1 c1 w1 o1 m1 n1) | fail)
  have HO1 := Lib.hid o1
  have HM1 := Lib.hid m1
  have HN1 := Lib.hid n1
  clear o1 m1 n1
  go_cut [10] (fun s wx => w1 = wx ∧ ∃ p : Nat, s = .int .i64 p ∧ (p < 8 * a.length ∨ (p = 0 ∧ a.length = 0)))
  case first =>
    by_cases h0 : 0 < a.length
    · have hp : Hid ((at' : Int) % (8 * (a.length : Int)) = ((at' % (8 * a.length) : Nat) : Int)) := by simp [Hid]
      have hlt := Nat.mod_lt at' (show 8 * a.length > 0 by omega)
      go_wp2
      go_meet
      exact ⟨rfl, at' % (8 * a.length), by rw [hp.out], .inl hlt⟩
    · go_wp2
      go_meet
      exact ⟨rfl, 0, rfl, .inr ⟨rfl, by omega⟩⟩
  case rest =>
    obtain ⟨rfl, p, rfl, hp⟩ := hcut
    have hp' : p ≤ 40000 := by omega
    go_upto_block 0 with (fail)
    go_cut [11, 12] (fun ch i wr => ∃ k : Nat, k ≤ 32 ∧ p + k ≤ 8 * a.length ∧ ch = .bool (Cs mask k) ∧ OwnB wr a1 c1 (Xs a p mask k) ∧ Mod (blk a1) w1 wr)
    case first =>
      go_wp2_with fail
      go_loopw [11, 12] (fun ch i wr => ∃ k : Nat, k ≤ 32 ∧ p + k ≤ 8 * a.length ∧ i = .int .i64 k ∧ ch = .bool (Cs mask k) ∧ OwnB wr a1 c1 (Xs a p mask k) ∧ Mod (blk a1) w1 wr) (fun _ i _ => 32 - (intOf i).toNat)
      case atStart => exact ⟨0, by omega, by omega, rfl, rfl, by rw [← List.nil_append a]; exact HO1.out, Mod.refl _ _⟩
      case round =>
        obtain ⟨k, hk, hpk, rfl, rfl, ho, hm⟩ := hrel
        have HO := Lib.hid ho
        have HM := Lib.hid hm
        clear ho hm
        by_cases hgo : k < 32
        · by_cases hgo2 : p + k < 8 * a.length
          · by_cases hbit : (bits BinOp.and IntKind.u32 (↑mask / 2 ^ k) 1 == 1) = true
            · have hj : (p + k) / 8 < (Xs a p mask k).length := by rw [Xs_length]; omega
              obtain ⟨g, hg1, hg2, hg3⟩ := HO.out.cell hj
              subst hg1
              have i1 : (0 : Int) ≤ ((p : Int) + (k : Int)) / 8 := by omega
              have i2 : ((p : Int) + (k : Int)) / 8 < (a.length : Int) := by omega
              have i3 : (((p : Int) + (k : Int)) / 8).toNat = (p + k) / 8 := by omega
              have i4 : (0 : Int) ≤ ((p : Int) + (k : Int)) % 8 := by omega
              have i5 : ((p : Int) + (k : Int)) % 8 < 8 := by omega
              have i0 : (0 : Int) ≤ (p : Int) + (k : Int) := by omega
              have e2 : IntKind.i64.wrap (((p : Int) + (k : Int)).tdiv 8) = ((p : Int) + (k : Int)) / 8 := by rw [Int.tdiv_eq_ediv_of_nonneg i0]; exact IntWalk.i64_in _ (by omega)
              have e3 : ((p : Int) + (k : Int)).tmod 8 = ((p : Int) + (k : Int)) % 8 := Int.tmod_eq_emod_of_nonneg i0
              have i6 : (((p : Int) + (k : Int)) % 8).toNat = (p + k) % 8 := by have := i1; omega
              have e5 := turn_walk (Xs a p mask k)[(p + k) / 8] ((p + k) % 8) (by omega)
              have hX : Hid (Xs a p mask (k + 1) = (Xs a p mask k).set ((p + k) / 8) (turnU (Xs a p mask k)[(p + k) / 8] ((p + k) % 8))) := by
                show (if mbit mask k = true then flip (Xs a p mask k) (p + k) else Xs a p mask k) = _
                rw [if_pos (show mbit mask k = true from hbit), flip_set _ _ hj]
              have hC : Hid (Cs mask (k + 1) = true) := by
                show (if mbit mask k = true then true else Cs mask k) = _
                exact if_pos hbit
              have e1 : IntKind.i64.wrap ((p : Int) + (k : Int)) = (p : Int) + (k : Int) := IntWalk.i64_in _ (by omega)
              go_wp2_with fail
              go_still_tail 19, (by kernel_rfl)
              change wpList _ _ _ _ _ wr.drew
              go_wp2
              go_roundw
              case rel =>
                refine ⟨k + 1, by omega, by omega, by go_num, by rw [hC.out], ?_, ?_⟩
                · rw [hX.out]
                  exact ((HO.out.set (j := (p + k) / 8) _).mod0 (Mod.drew [] _))
                · exact (HM.out.trans' (Mod.setCell _ _ _ (by simp [blk]))).trans' (Mod.drew _ _)
              case measure => simp [intOf]; omega
            · have hbit' : (bits BinOp.and IntKind.u32 (↑mask / 2 ^ k) 1 == 1) = false := by simpa using hbit
              have hX : Hid (Xs a p mask (k + 1) = Xs a p mask k) := by
                show (if mbit mask k = true then flip (Xs a p mask k) (p + k) else Xs a p mask k) = _
                exact if_neg hbit
              have hC : Hid (Cs mask (k + 1) = Cs mask k) := by
                show (if mbit mask k = true then true else Cs mask k) = _
                exact if_neg hbit
              clear hbit
              go_wp2
              go_roundw
              case rel => exact ⟨k + 1, by omega, by omega, by go_num, by rw [hC.out], by rw [hX.out]; exact HO.out, HM.out⟩
              case measure => simp [intOf]; omega
          · go_wp2_with fail
            go_meet
            exact ⟨k, by omega, by omega, rfl, HO.out, HM.out⟩
        · go_wp2_with fail
          go_meet
          exact ⟨k, by omega, by omega, rfl, HO.out, HM.out⟩
    case rest =>
      obtain ⟨k, hk, hpk, rfl, ho, hm⟩ := hcut
      have hburst := burst a p mask k hk (.inr hpk)
      have HBu := Lib.hid hburst
      have HO := Lib.hid ho
      have HM := Lib.hid (HM1.out.transNew hm HN1.out (by simp [blk]))
      have HL := Lib.hid (Xs_length a p mask k)
      clear ho hm hburst
      go_wp2_with fail
      refine (sum_any _ _ _ (Xs a p mask k) T0 _ HL.out (by rw [HL.out]; omega) (HT.out.mod0 HM.out) HO.out.sees).mono ?_
      rintro e w2 ⟨rfl, hm2⟩
      have HM2 := Lib.hid (HM.out.trans0 hm2)
      clear hm2
      go_wp2_with fail
      refine (sum_any _ _ _ a T0 _ rfl (by omega) (HT.out.mod0 HM2.out) (HA.out.mod0 HM2.out)).mono ?_
      rintro e w3 ⟨rfl, hm3⟩
      have HM3 := Lib.hid (HM2.out.trans0 hm3)
      clear hm3
      have hbu := HBu.out
      go_upto_region 16 with (fail)
      clear hbu
      go_cut [13] (fun s wx => w3 = wx ∧ ∃ n : Nat, n ≤ a.length ∧ n ≤ b.length ∧ s = .int .i64 n)
      case first =>
        by_cases hmin : b.length < a.length
        · go_wp2
          go_meet
          exact ⟨rfl, b.length, by omega, by omega, rfl⟩
        · go_wp2
          go_meet
          exact ⟨rfl, a.length, by omega, by omega, rfl⟩
      case rest =>
        obtain ⟨rfl, n, hna, hnb, rfl⟩ := hcut
        go_wp2_with (first | (at_make; refine wpl_make8 (dst := some 87) _ _ .i64 .i64 _ _ n rfl rfl rfl rfl (by omega) ?_; intro g4 w4 o4 m4 l4) | (at_make; refine wpl_make8 (dst := some 89) _ _ .i64 .i64 _ _ n rfl rfl rfl rfl (by omega) ?_; intro g5 w5 o5 m5 l5) | fail)
        have HO4 := Lib.hid ((Zs_zero a b n).symm ▸ o4.mod0 m5)
        have HO5 := Lib.hid o5
        have HM5 := Lib.hid ((HM3.out.trans0 m4).trans0 m5)
        have hne : Hid (g4 ≠ g5) := by
          have h1 : g4 < w4.heap.size := Own.lt o4 g4 (by simp [blk])
          show g4 ≠ g5
          omega
        have hg4 : Hid (w.heap.size ≤ g4) := by
          have := HM3.out.size
          show w.heap.size ≤ g4
          omega
        clear o4 m4 l4 o5 m5 l5
        go_loopw [16] (fun i wr => ∃ k : Nat, k ≤ n ∧ i = .int .i64 k ∧ OwnB wr (some ⟨g4, 0, none⟩) n (Zs a b n k) ∧ Mod [g4] w5 wr) (fun i _ => n - (intOf i).toNat)
        case atStart => exact ⟨0, by omega, rfl, HO4.out, Mod.refl _ _⟩
        case round =>
          obtain ⟨j, hj, rfl, hoz, hmz⟩ := hrel
          have HOZ := Lib.hid hoz
          have HMZ := Lib.hid hmz
          clear hoz hmz
          have HMW := Lib.hid (HM5.out.trans HMZ.out (by intro i hi hl; simp only [List.mem_singleton] at hi; have := hg4.out; omega))
          by_cases hjn : j < n
          · obtain ⟨ba, oa, hba, hca'⟩ := (HA.out.mod0 HMW.out).at' (j := j) (by omega)
            obtain ⟨bb, ob, hbb, hcb'⟩ := (HB.out.mod0 HMW.out).at' (j := j) (by omega)
            subst hba hbb
            obtain ⟨g, hg1, _, hg3⟩ := HOZ.out.cell (j := j) (by rw [Zs_length a b n j hna hnb (by omega)]; omega)
            obtain ⟨_, hg2, _⟩ : ∃ x, wr.cell? ⟨g4, j, none⟩ = some x ∧ True := by
              obtain ⟨g', h1, h2, _⟩ := HOZ.out.cell (j := j) (by rw [Zs_length a b n j hna hnb (by omega)]; omega)
              cases h1; exact ⟨_, h2, trivial⟩
            cases hg1
            have e5 := xor_walk a[j] b[j]
            have i1 : (0 : Int) ≤ (j : Int) := by omega
            have i2 : (j : Int) < (a.length : Int) := by omega
            have i3 : (j : Int) < (b.length : Int) := by omega
            have i4 : (j : Int) < (n : Int) := by omega
            have hZ : Hid (Zs a b n (j + 1) = (Zs a b n j).set j (xorU a[j] b[j])) := (Zs_succ a b n j hna hnb hjn).symm
            go_wp2_with fail
            go_still_tail 12, (by kernel_rfl)
            change wpList _ _ _ _ _ wr.drew
            go_wp2
            go_roundw
            case rel =>
              refine ⟨j + 1, by omega, by go_num, ?_, ?_⟩
              · rw [hZ.out]
                exact ((HOZ.out.set (j := j) _).mod0 (Mod.drew [] _))
              · exact (HMZ.out.trans' (Mod.setCell _ _ _ (by simp))).trans' (Mod.drew _ _)
            case measure => simp [intOf]; omega
          · obtain rfl : j = n := by omega
            have hlin := linear (a.take j) (b.take j) (by simp; omega)
            have hlen : (a.take j).length = j := by simp; omega
            have hlenb : (b.take j).length = j := by simp; omega
            rw [hlen, ← Zs_all a b j] at hlin
            have hlin' : (bits BinOp.xor IntKind.u32 (bits BinOp.xor IntKind.u32 (moreC T0 0 (a.take j)) (moreC T0 0 (b.take j))) (moreC T0 0 (List.replicate j 0)) == moreC T0 0 (Zs a b j j)) = true := by rw [hlin]; simp
            have HLA := Lib.hid hlen
            have HLB := Lib.hid hlenb
            have HLZ := Lib.hid (Zs_length a b j j hna hnb (Nat.le_refl _))
            have HO5' := Lib.hid (HO5.out.mod HMZ.out (by intro i hi; simp [blk] at hi; subst hi; simpa using fun h => hne.out h.symm))
            clear hlin hlen hlenb
            go_wp2_with fail
            go_region_with (first
              | (go_at_call_of 6 ca; refine (sum_any _ _ _ (a.take j) T0 _ HLA.out (by rw [HLA.out]; omega) (HT.out.mod0 (HMW.out.trans0 (Mod.drew _ _))) ((HA.out.mod0 (HMW.out.trans0 (Mod.drew _ _))).take j)).mono ?_; rintro e w6 ⟨rfl, hm6⟩; have HM6 := Lib.hid ((Mod.drew [] wr).trans0 hm6); clear hm6)
              | (go_at_call_of 6 cb; refine (sum_any _ _ _ (b.take j) T0 _ HLB.out (by rw [HLB.out]; omega) (HT.out.mod0 (HMW.out.trans0 HM6.out)) ((HB.out.mod0 (HMW.out.trans0 HM6.out)).take j)).mono ?_; rintro e w7 ⟨rfl, hm7⟩; have HM7 := Lib.hid (HM6.out.trans0 hm7); clear hm7)
              | (go_at_call_of 6 g5; refine (sum_any _ _ _ (List.replicate j 0) T0 _ (by simp) (by simp; omega) (HT.out.mod0 (HMW.out.trans0 HM7.out)) (HO5'.out.mod0 HM7.out).sees).mono ?_; rintro e w8 ⟨rfl, hm8⟩; have HM8 := Lib.hid (HM7.out.trans0 hm8); clear hm8)
              | (go_at_call_of 6 g4; refine (sum_any _ _ _ (Zs a b j j) T0 _ HLZ.out (by rw [HLZ.out]; omega) (HT.out.mod0 (HMW.out.trans0 HM8.out)) (HOZ.out.mod0 HM8.out).sees).mono ?_; rintro e w9 ⟨rfl, hm9⟩; have HM9 := Lib.hid (HM8.out.trans0 hm9); clear hm9)
              | (go_at_call 5; refine (wakes_any _ (HT.out.mod0 (HMW.out.trans0 HM9.out))).mono ?_; rintro e w10 ⟨rfl, hm10⟩; have HM10 := Lib.hid (HMW.out.trans0 (HM9.out.trans0 hm10)); clear hm10))
            all_goals go_wp2
            all_goals go_ret
            all_goals exact ⟨rfl, HM10.out⟩
end Go.Proofs.YtgageajnicedbaaDoor
