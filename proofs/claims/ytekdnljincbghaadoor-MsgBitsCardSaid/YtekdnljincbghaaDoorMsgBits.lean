/- The walk of quoratelaw17.MsgBits. -/
import Derived.Test.YtekdnljincbghaaDoorMsgSame
import Derived.StillTailTactics
namespace Go.Proofs.YtekdnljincbghaaDoor
open Go Go.RowKit Go.Lib

set_option maxRecDepth 100000 in
set_option maxHeartbeats 16000000 in
theorem msgBits_any (a : Mm) (bit : Nat) (w : World) (hbit : bit < 4294967296) (ha : SeesM w a) (wa : WfM a) (hf : Flds w) (hT : TableAt w T0) :
    Calls Tryd.prog 8 #[msgV a, .int .u32 (bit : Int)] w fun e w' => e = .returned (.bool true) ∧ Mod [] w w' := by
  obtain ⟨k, bn, br, f, l, c, vo, vl, vc, so, bl, sc, po, sl, pc, hva, hra⟩ := mshape a
  have GA : Hid (∀ w', Mod [] w w' → Calls Tryd.prog 10 #[msgV a] w' fun e w'' => GreatR a e ∧ Mod [] w' w'') := Lib.hid (fun w' m => great17_any a w' (ha.mod0 m) wa)
  have WK : Hid (∀ w', Mod [] w w' → Calls Tryd.prog 11 #[] w' fun e w'' => e = .returned (.bool true) ∧ Mod [] w' w'') := Lib.hid (fun w' m => wakes17_any w' (hf.mod0 m) (hT.mod0 m))
  have PT : Hid (FineM a → ∀ w', Mod [] w w' → Calls Tryd.prog 14 #[msgV a] w' (PutM w' a.d)) := Lib.hid (fun hF w' m => mput_any a w' (ha.mod0 m) wa hF.small (hf.mod0 m) (hT.mod0 m))
  have HSM : Hid (FineM a → (insideB a.d).length ≤ 16000011) := Lib.hid (fun hF => insideB_len a hF.small)
  have HF := Lib.hid hf
  have HT := Lib.hid hT
  obtain ⟨d, hd⟩ : ∃ x, a.d = x := ⟨_, rfl⟩
  rw [hd] at PT HSM
  rw [hva] at GA PT ⊢
  clear hva hra ha wa hf hT hd
  have m1 := Mod.alloc [] w (.cells #[.int .u8 k, .int .u64 bn, .int .i64 br, .int .u64 f, .int .u64 l, .int .u64 c, .slice vo vl vc, .slice so bl sc, .slice po sl pc] 29)
  have hb1 := heap_alloc_new w (.cells #[.int .u8 k, .int .u64 bn, .int .i64 br, .int .u64 f, .int .u64 l, .int .u64 c, .slice vo vl vc, .slice so bl sc, .slice po sl pc] 29)
  obtain ⟨w1, hw1⟩ : ∃ x, w.alloc (.cells #[.int .u8 k, .int .u64 bn, .int .i64 br, .int .u64 f, .int .u64 l, .int .u64 c, .slice vo vl vc, .slice so bl sc, .slice po sl pc] 29) = x := ⟨_, rfl⟩
  rw [hw1] at m1 hb1
  have M1 := Lib.hid m1
  have LA := Lib.hid (box9 hb1)
  clear m1 hb1
  obtain ⟨a0, a1, a2, a3, a4, a5, a6, a7, a8⟩ := LA.out w1 (Mod.refl _ _)
  have HG := Lib.hid (GA.out w1 M1.out)
  go_enter Tryd.func8, Tryd.ntmps8
  go_wp2_with fail
  refine HG.out.mono ?_
  rintro e w3 ⟨⟨qa, rfl, hqa⟩, m3⟩
  have HFA := Lib.hid hqa
  have M3 := Lib.hid (M1.out.trans' m3)
  have LA3 : Hid (∀ w', Mod [] w3 w' → _) := Lib.hid (fun w' h => LA.out w' (m3.trans' h))
  clear hqa m3 a0 a1 a2 a3 a4 a5 a6 a7 a8 HG LA hw1 GA
  cases qa
  case true =>
    have HW := Lib.hid (WK.out w3 M3.out)
    go_wp2_with fail
    refine HW.out.mono ?_
    rintro e wk ⟨rfl, mk⟩
    have MK := Lib.hid (M3.out.trans' mk)
    clear mk HW
    go_wp2_with fail
    go_ret
    exact ⟨rfl, MK.out⟩
  replace HFA := Lib.hid (HFA.out rfl)
  have HP := Lib.hid (PT.out HFA.out w3 M3.out)
  obtain ⟨a0, a1, a2, a3, a4, a5, a6, a7, a8⟩ := LA3.out w3 (Mod.refl _ _)
  go_wp2_with fail
  refine HP.out.mono ?_
  rintro e w4 ⟨ba, n, bc, rfl, hn, ho, m4, hd⟩
  have M4 := Lib.hid (M3.out.trans' m4)
  have hsm := HSM.out HFA.out
  clear a0 a1 a2 a3 a4 a5 a6 a7 a8 HP PT LA3 HSM
  by_cases hM : MayM d
  case neg =>
    rw [if_neg hM] at hn ho
    have hn0 : n = 0 := hn.symm
    subst hn0
    have HE : Hid (checkE d = 1) := Lib.hid (checkE_no hM)
    rw [HE.out]
    clear m4 hM ho hn hd
    have HW := Lib.hid (WK.out w4 M4.out)
    go_wp2_with fail
    refine HW.out.mono ?_
    rintro e wk ⟨rfl, mk⟩
    have MK := Lib.hid (M4.out.trans' mk)
    clear mk HW
    go_wp2_with fail
    go_ret
    exact ⟨rfl, MK.out⟩
  rw [if_pos hM] at hn ho
  have HE : Hid (checkE d = 0) := Lib.hid (if_pos hM)
  rw [HE.out]
  have hn5 : 5 ≤ n := by have := insideB_pos d; rw [← hn, msgB_len]; omega
  have hnb : n ≤ 16000015 := by rw [← hn, msgB_len]; omega
  have O4 := Lib.hid ho
  have HN := Lib.hid hn
  have HB4 : Hid (∀ k, k ∈ blk ba → w.heap.size ≤ k) := Lib.hid (fun k hk => Nat.le_trans M3.out.size (hd k hk))
  have hc := own_max ho
  have hsum : Hid (sum4 ((msgB d).drop 4) = (msgB d).take 4) := Lib.hid (by rw [msgB_take, msgB_drop])
  obtain ⟨l, hl⟩ : ∃ x, msgB d = x := ⟨_, rfl⟩
  rw [hl] at O4 HN hsum hc
  rw [HN.out] at hc
  clear m4 hM ho hn hd hsm hl
  have D5 : decide ((n : Int) < 5) = false := decide_eq_false (by omega)
  have X1 : IntKind.i64.wrap (8 * (n : Int)) = 8 * (n : Int) := IntWalk.i64_in _ (by omega)
  have X2 : (8 * (n : Int) == 0) = false := by simp; omega
  go_upto_region 7 with (fail)
  have hp0 : (bit : Int) % (8 * (n : Int)) = ((bit % (8 * n) : Nat) : Int) := by rw [Int.natCast_emod, Int.natCast_mul]; rfl
  have hplt : bit % (8 * n) < 8 * n := Nat.mod_lt _ (by omega)
  rw [hp0]
  obtain ⟨p, hp⟩ : ∃ x, bit % (8 * n) = x := ⟨_, rfl⟩
  rw [hp] at hplt ⊢
  clear hp0 hp X1 X2 D5
  have hj : p / 8 < l.length := by rw [HN.out]; omega
  obtain ⟨g, rfl, hg2, hg3⟩ := Own.cell O4.out (j := p / 8) (u := u8v l[p / 8]) (by rw [List.getElem?_map, List.getElem?_eq_getElem hj]; rfl)
  have hg2' : w4.cell? ⟨g, p / 8, none⟩ = some (.int .u8 ((l[p / 8].toNat : Nat) : Int)) := hg2
  have hg2'' : w4.cell? ⟨g, p / 8, none⟩ = some (.int .u8 (l[p / 8].toNat : Int)) := hg2
  have i1 : (0 : Int) ≤ (p : Int) / 8 := by omega
  have i2 : (p : Int) / 8 < (n : Int) := by omega
  have i3 : ((p : Int) / 8).toNat = p / 8 := by omega
  have i4 : (0 : Int) ≤ (p : Int) % 8 := by omega
  have i5 : (p : Int) % 8 < 8 := by omega
  have e2 : IntKind.i64.wrap ((p : Int).tdiv 8) = (p : Int) / 8 := by rw [Int.tdiv_eq_ediv_of_nonneg (by omega)]; exact IntWalk.i64_in _ (by omega)
  have e2' : IntKind.i64.wrap ((p : Int) / 8) = (p : Int) / 8 := IntWalk.i64_in _ (by omega)
  have e3 : (p : Int).tmod 8 = (p : Int) % 8 := Int.tmod_eq_emod_of_nonneg (by omega)
  have i6 : ((p : Int) % 8).toNat = p % 8 := by omega
  have e5 := turn_walk l[p / 8] (p % 8) (by omega)
  have HFL : Hid (flip l p = l.set (p / 8) (turnU l[p / 8] (p % 8))) := Lib.hid (flip_set l p hj)
  clear hg2
  go_still_tail 13, (by kernel_rfl)
  change wpList _ _ _ _ _ w4.drew
  have md := Mod.drew [] w4
  have od := OwnB.mod0 O4.out md
  obtain ⟨wd, hwd⟩ : ∃ x, w4.drew = x := ⟨_, rfl⟩
  rw [hwd] at md od ⊢
  obtain ⟨g', eg, gd2, gd3⟩ := Own.cell od (j := p / 8) (u := u8v l[p / 8]) (by rw [List.getElem?_map, List.getElem?_eq_getElem hj]; rfl)
  cases eg
  have gd2' : wd.cell? ⟨g, p / 8, none⟩ = some (.int .u8 (l[p / 8].toNat : Int)) := gd2
  have MD := Lib.hid (M4.out.trans' md)
  have OD := Lib.hid od
  clear gd2 md od hwd hg2' hg2'' hg3 O4 M4
  go_upto_region 8 with (fail)
  have hsset : OwnB (wd.setCell ⟨g, p / 8, none⟩ (.int .u8 ((turnU l[p / 8] (p % 8)).toNat : Int))) (some ⟨g, 0, none⟩) bc (flip l p) := by
    rw [HFL.out]
    have h := Own.set (j := p / 8) OD.out (u8v (turnU l[p / 8] (p % 8)))
    unfold OwnB
    rw [List.length_set, List.map_set]
    exact h
  have m5 : Mod [g] wd (wd.setCell ⟨g, p / 8, none⟩ (.int .u8 ((turnU l[p / 8] (p % 8)).toNat : Int))) := Mod.setCell _ _ _ (by simp)
  obtain ⟨w5, hw5⟩ : ∃ x, wd.setCell ⟨g, p / 8, none⟩ (.int .u8 ((turnU l[p / 8] (p % 8)).toNat : Int)) = x := ⟨_, rfl⟩
  rw [hw5] at hsset m5 ⊢
  have O5 := Lib.hid hsset
  have M5 := Lib.hid (MD.out.trans m5 (fun i hi hl => by simp at hi; have := HB4.out g (by simp [blk]); omega))
  have HTK : Hid (takeR (flip l p) = (12, (mz 0).d)) := Lib.hid (takeR_flip l p (by rw [HN.out]; exact hn5) hsum.out (by rw [HN.out]; exact hplt))
  clear hsset m5 hw5 gd2' gd3 OD MD i1 i2 i3 i4 i5 e2 e2' e3 i6 e5 HFL
  have HC := Lib.hid (mtake_any (some ⟨g, 0, none⟩) n bc (flip l p) w5 (by rw [flip_length, HN.out]) hc.1 hc.2 O5.out.sees (HF.out.mod0 M5.out) (HT.out.mod0 M5.out))
  go_wp2_with fail
  refine HC.out.mono ?_
  rintro e w6 ⟨m2, rfl, hmd, nm6, wf6, m6⟩
  rw [HTK.out] at hmd ⊢
  dsimp only at hmd ⊢
  have M6 := Lib.hid (M5.out.trans' m6)
  have S6 : Hid (∀ w', Mod [] w6 w' → Calls Tryd.prog 22 #[msgV m2, msgV (mz 0)] w' fun e w3 => e = .returned (.bool true) ∧ Mod [] w' w3) := Lib.hid (fun w' m => by
    have h := msame_any m2 (mz 0) w' (nm6.sees.mod0 m) ((NewM.mz 0 w' 0).sees) wf6 wf_mz
    rwa [decide_eq_true hmd] at h)
  clear hmd nm6 wf6 m6 HC O5
  obtain ⟨k2, bn2, br2, f2, l2, c2, vo2, vl2, vc2, so2, bl2, sc2, po2, sl2, pc2, hv2, -⟩ := mshape m2
  rw [hv2] at S6 ⊢
  clear hv2
  obtain ⟨wz, hwz, hbz, hmz⟩ : ∃ x, w6.alloc (.cells #[.int .u8 0, .int .u64 0, .int .i64 0, .int .u64 0, .int .u64 0, .int .u64 0, .slice none 0 0, .slice none 0 0, .slice none 0 0] 29) = x ∧ x.heap[w6.heap.size]? = some (.cells #[.int .u8 0, .int .u64 0, .int .i64 0, .int .u64 0, .int .u64 0, .int .u64 0, .slice none 0 0, .slice none 0 0, .slice none 0 0] 29 (0, 0)) ∧ Mod [] w6 x := ⟨_, rfl, heap_alloc_new w6 _, Mod.alloc _ _ _⟩
  have z0 := cell_of_block (i := 0) hbz
  have y0 := free_of_block (i := 0) hbz
  have z1 := cell_of_block (i := 1) hbz
  have y1 := free_of_block (i := 1) hbz
  have z2 := cell_of_block (i := 2) hbz
  have y2 := free_of_block (i := 2) hbz
  have z3 := cell_of_block (i := 3) hbz
  have y3 := free_of_block (i := 3) hbz
  have z4 := cell_of_block (i := 4) hbz
  have y4 := free_of_block (i := 4) hbz
  have z5 := cell_of_block (i := 5) hbz
  have y5 := free_of_block (i := 5) hbz
  have z6 := cell_of_block (i := 6) hbz
  have y6 := free_of_block (i := 6) hbz
  have z7 := cell_of_block (i := 7) hbz
  have y7 := free_of_block (i := 7) hbz
  have z8 := cell_of_block (i := 8) hbz
  have y8 := free_of_block (i := 8) hbz
  simp only [List.getElem?_toArray, List.getElem?_cons_succ, List.getElem?_cons_zero] at z0 z1 z2 z3 z4 z5 z6 z7 z8
  go_upto_region 9 with (fail)
  obtain ⟨w7, hw7⟩ : ∃ x, (((((((((wz.setCell ⟨w6.heap.size, 0, none⟩ (.int .u8 k2)).setCell ⟨w6.heap.size, 1, none⟩ (.int .u64 bn2)).setCell ⟨w6.heap.size, 2, none⟩ (.int .i64 br2)).setCell ⟨w6.heap.size, 3, none⟩ (.int .u64 f2)).setCell ⟨w6.heap.size, 4, none⟩ (.int .u64 l2)).setCell ⟨w6.heap.size, 5, none⟩ (.int .u64 c2)).setCell ⟨w6.heap.size, 6, none⟩ (.slice vo2 vl2 vc2)).setCell ⟨w6.heap.size, 7, none⟩ (.slice so2 bl2 sc2)).setCell ⟨w6.heap.size, 8, none⟩ (.slice po2 sl2 pc2)) = x := ⟨_, rfl⟩
  rw [hw7]
  have hbw7 : w7.heap[w6.heap.size]? = some (.cells #[.int .u8 k2, .int .u64 bn2, .int .i64 br2, .int .u64 f2, .int .u64 l2, .int .u64 c2, .slice vo2 vl2 vc2, .slice so2 bl2 sc2, .slice po2 sl2 pc2] 29 (0, 0)) := by
    rw [← hw7]
    have h := (heap_setCell_same (i := 8) (heap_setCell_same (i := 7) (heap_setCell_same (i := 6) (heap_setCell_same (i := 5) (heap_setCell_same (i := 4) (heap_setCell_same (i := 3) (heap_setCell_same (i := 2) (heap_setCell_same (i := 1) (heap_setCell_same (i := 0) hbz (.int .u8 k2)) (.int .u64 bn2)) (.int .i64 br2)) (.int .u64 f2)) (.int .u64 l2)) (.int .u64 c2)) (.slice vo2 vl2 vc2)) (.slice so2 bl2 sc2)) (.slice po2 sl2 pc2))
    simp only [List.setIfInBounds_toArray, List.set_cons_zero, List.set_cons_succ] at h
    exact h
  have mw7 : Mod [] w6 w7 := by
    rw [← hw7]
    exact hmz.trans (T := [w6.heap.size]) (((((((((Mod.setCell _ _ _ (by simp)).trans' (Mod.setCell _ _ _ (by simp))).trans' (Mod.setCell _ _ _ (by simp))).trans' (Mod.setCell _ _ _ (by simp))).trans' (Mod.setCell _ _ _ (by simp))).trans' (Mod.setCell _ _ _ (by simp))).trans' (Mod.setCell _ _ _ (by simp))).trans' (Mod.setCell _ _ _ (by simp))).trans' (Mod.setCell _ _ _ (by simp))) (by simp)
  clear z0 z1 z2 z3 z4 z5 z6 z7 z8 y0 y1 y2 y3 y4 y5 y6 y7 y8 hbz hmz hwz hw7
  have M7 := Lib.hid (M6.out.trans' mw7)
  replace S6 := Lib.hid (S6.out w7 mw7)
  obtain ⟨d0, d1, d2, d3, d4, d5, d6, d7, d8⟩ := box9 hbw7 w7 (Mod.refl _ _)
  clear mw7 hbw7
  go_wp2_with fail
  refine S6.out.mono ?_
  rintro e w8 ⟨rfl, m8⟩
  have M8 := Lib.hid (M7.out.trans' m8)
  clear m8 S6
  have HW := Lib.hid (WK.out w8 M8.out)
  go_wp2_with fail
  refine HW.out.mono ?_
  rintro e wk ⟨rfl, mk⟩
  have MK := Lib.hid (M8.out.trans' mk)
  clear mk HW
  go_wp2_with fail
  go_ret
  exact ⟨rfl, MK.out⟩
end Go.Proofs.YtekdnljincbghaaDoor
