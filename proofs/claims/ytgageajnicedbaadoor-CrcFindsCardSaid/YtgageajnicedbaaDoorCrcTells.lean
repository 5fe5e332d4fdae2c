/- The walks of the laws of the crc package: wakes, CrcTells. -/
import Derived.Test.YtgageajnicedbaaDoorCrcLaw
import Derived.Test.YtgageajnicedbaaDoorBytes
import Derived.Lib.SlBytesConst
namespace Go.Proofs.YtgageajnicedbaaDoor
open Go Go.RowKit

theorem hT0 : ∀ i, i < 16 → T0 i = T0 i := fun _ _ => rfl

set_option maxHeartbeats 400000 in
theorem wakes_any (w : World) (hT : TableAt w T0) :
    Calls Tryd.prog 5 #[] w fun e w' => e = .returned (.bool true) ∧ Mod [] w w' := by
  have HT := Lib.hid hT
  clear hT
  have kc := fun (w : World) (C : Array Value) (n c : Nat) => Lib.run_convert_bytes_const (P := Tryd.prog) w 22 5 C n c Tryd.underlying22 Tryd.underlying5
  go_enter Tryd.func5, Tryd.ntmps5
  have h1 : Hid (moreC T0 0 [49, 50, 51, 52, 53, 54, 55, 56, 57] = 3808858755) := by unfold Hid; decide +kernel
  have h2 : Hid (moreC T0 0 [] = 0) := by unfold Hid; decide +kernel
  go_wp2_with fail
  have hm0 := Mod.alloc [] w (.cells #[.int .u8 49, .int .u8 50, .int .u8 51, .int .u8 52, .int .u8 53, .int .u8 54, .int .u8 55, .int .u8 56, .int .u8 57] 5 (9, 10))
  have hown := Own.new (sz := 1) (n := 9) (heap_alloc_new w (.cells #[.int .u8 49, .int .u8 50, .int .u8 51, .int .u8 52, .int .u8 53, .int .u8 54, .int .u8 55, .int .u8 56, .int .u8 57] 5 (9, 10))) (.inr (by decide)) (by decide) (by unfold maxLen; omega)
  refine (sum_any _ _ _ [49, 50, 51, 52, 53, 54, 55, 56, 57] T0 _ rfl (by decide) (HT.out.mod0 hm0) (Own.sees (l := [49, 50, 51, 52, 53, 54, 55, 56, 57]) hown)).mono ?_
  rintro e w1 ⟨rfl, hm1⟩
  have HM1 := Lib.hid (hm0.trans0 hm1)
  clear hm0 hm1 hown
  rw [h1.out]
  go_wp2_with fail
  refine (sum_any _ _ _ [] T0 _ rfl (by decide) (HT.out.mod0 HM1.out) (Sees.nil _ _)).mono ?_
  rintro e w2 ⟨rfl, hm2⟩
  have HM2 := Lib.hid (HM1.out.trans0 hm2)
  clear hm2
  rw [h2.out]
  go_wp2
  go_ret
  exact ⟨rfl, HM2.out⟩

set_option maxHeartbeats 800000 in
theorem crcTells_any (ao bo : Option Addr) (la lb ca cb : Nat) (a b : List UInt8) (w : World) (hla : a.length = la) (hlb : b.length = lb) (hma : la ≤ 9223372036854775807) (hmb : lb ≤ 9223372036854775807)
    (hT : TableAt w T0) (hA : Sees w ao a) (hB : Sees w bo b) :
    Calls Tryd.prog 3 #[.slice ao la ca, .slice bo lb cb] w fun e w' => e = .returned (.bool true) ∧ Mod [] w w' := by
  subst hla hlb
  have HT := Lib.hid hT
  have HA := Lib.hid hA
  have HB := Lib.hid hB
  clear hT hA hB
  by_cases h5a : 5000 < a.length
  · go_enter Tryd.func3, Tryd.ntmps3
    go_wp2_with (go_at_call 5; refine (wakes_any _ HT.out).mono ?_; rintro e w1 ⟨rfl, hm1⟩)
    go_ret
    exact ⟨rfl, by assumption⟩
  by_cases h5b : 5000 < b.length
  · go_enter Tryd.func3, Tryd.ntmps3
    go_wp2_with (go_at_call 5; refine (wakes_any _ HT.out).mono ?_; rintro e w1 ⟨rfl, hm1⟩)
    go_ret
    exact ⟨rfl, by assumption⟩
  have hs1 : Hid (moreC T0 0 a = refSum a) := by unfold Hid; rw [sum_B T0 hT0, refSum_crcB]
  have hs2 : Hid (moreC T0 (refSum a) b = refSum (a ++ b)) := by unfold Hid; rw [more_crcB T0 hT0, refSum_crcB]
  have hs3 : Hid (moreC T0 0 (a ++ b) = refSum (a ++ b)) := by unfold Hid; rw [sum_B T0 hT0, refSum_crcB]
  go_enter Tryd.func3, Tryd.ntmps3
  go_wp2_with (first | (at_builtin; refine wpl_app8 (dst := some 16) _ _ none 0 0 [] rfl rfl (OwnB.nil _) ao _ ca a rfl rfl HA.out (by omega) ?_; intro a1 c1 w1 o1 m1 n1) | (at_builtin; refine wpl_app8 (dst := some 18) _ _ a1 _ c1 _ rfl (by simp) o1 bo _ cb b rfl rfl (HB.out.mod0 m1) (by omega) ?_; intro a2 c2 w2 o2 m2 n2) | fail)
  have hmod : Mod [] w w2 := Mod.transNew (ao := none) m1 m2 n1 (by simp [blk])
  have HM2 := Lib.hid hmod
  have HO2 := Lib.hid o2
  have hl2 : (a ++ b).length = a.length + b.length := by simp
  have HL2 := Lib.hid hl2
  rw [List.nil_append] at HO2
  clear hmod m1 m2 n1 n2 o1 o2 hl2
  refine (sum_any _ _ _ a T0 _ rfl (by omega) (HT.out.mod0 HM2.out) (HA.out.mod0 HM2.out)).mono ?_
  rintro e w3 ⟨rfl, hm3⟩
  have HM3 := Lib.hid (HM2.out.trans0 hm3)
  have HO3 := Lib.hid (HO2.out.mod0 hm3)
  clear hm3
  rw [hs1.out]
  go_wp2_with fail
  refine (refSum_any _ _ _ a _ rfl (by omega) (HA.out.mod0 HM3.out)).mono ?_
  rintro e w4 ⟨rfl, rfl⟩
  go_wp2_with fail
  refine (refSum_any _ _ _ a _ rfl (by omega) (HA.out.mod0 HM3.out)).mono ?_
  rintro e w4 ⟨rfl, rfl⟩
  go_wp2_with fail
  refine (more_any _ _ _ _ b T0 _ rfl (by omega) (HT.out.mod0 HM3.out) (HB.out.mod0 HM3.out)).mono ?_
  rintro e w4 ⟨rfl, hm4⟩
  have HM4 := Lib.hid (HM3.out.trans0 hm4)
  have HO4 := Lib.hid (HO3.out.mod0 hm4)
  clear hm4
  rw [hs2.out]
  go_wp2_with fail
  refine (refSum_any _ _ _ (a ++ b) _ HL2.out (by rw [HL2.out]; omega) HO4.out.sees).mono ?_
  rintro e w5 ⟨rfl, rfl⟩
  go_wp2_with fail
  refine (sum_any _ _ _ (a ++ b) T0 _ HL2.out (by rw [HL2.out]; omega) (HT.out.mod0 HM4.out) HO4.out.sees).mono ?_
  rintro e w5 ⟨rfl, hm5⟩
  have HM5 := Lib.hid (HM4.out.trans0 hm5)
  have HO5 := Lib.hid (HO4.out.mod0 hm5)
  clear hm5
  rw [hs3.out]
  go_wp2_with fail
  refine (refSum_any _ _ _ (a ++ b) _ HL2.out (by rw [HL2.out]; omega) HO5.out.sees).mono ?_
  rintro e w6 ⟨rfl, rfl⟩
  go_wp2_with fail
  refine (wakes_any _ (HT.out.mod0 HM5.out)).mono ?_
  rintro e w6 ⟨rfl, hm6⟩
  have HM6 := Lib.hid (HM5.out.trans0 hm6)
  clear hm6
  go_wp2
  go_ret
  exact ⟨rfl, HM6.out⟩
end Go.Proofs.YtgageajnicedbaaDoor
