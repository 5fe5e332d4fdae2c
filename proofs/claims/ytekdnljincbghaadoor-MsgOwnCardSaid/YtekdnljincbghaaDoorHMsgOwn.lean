/- The walk of quoratelaw17.MsgOwn. -/
import Derived.Test.YtekdnljincbghaaDoorHMsgO1
namespace Go.Proofs.YtekdnljincbghaaDoor
open Go Go.RowKit Go.Lib

set_option maxRecDepth 100000 in
set_option maxHeartbeats 16000000 in
theorem msgOwn_any (a : Mm) (w : World) (ha : SeesM w a) (wa : WfM a) (hf : Flds w) (hT : TableAt w T0) :
    Calls Tryd.prog 9 #[msgV a] w fun e w' => e = .returned (.bool true) ∧ Mod [] w w' := by
  obtain ⟨k, bn, br, f, l, c, vo, vl, vc, so, bl, sc, po, sl, pc, hva, hra⟩ := mshape a
  have GA : Hid (∀ w', Mod [] w w' → Calls Tryd.prog 10 #[msgV a] w' fun e w'' => GreatR a e ∧ Mod [] w' w'') := Lib.hid (fun w' m => great17_any a w' (ha.mod0 m) wa)
  have WK : Hid (∀ w', Mod [] w w' → Calls Tryd.prog 11 #[] w' fun e w'' => e = .returned (.bool true) ∧ Mod [] w' w'') := Lib.hid (fun w' m => wakes17_any w' (hf.mod0 m) (hT.mod0 m))
  have PTA : Hid (FineM a → ∀ w', Mod [] w w' → Calls Tryd.prog 14 #[msgV a] w' (PutM w' a.d)) := Lib.hid (fun hF w' m => mput_any a w' (ha.mod0 m) wa hF.small (hf.mod0 m) (hT.mod0 m))
  have HSMA : Hid (FineM a → (insideB a.d).length ≤ 16000011) := Lib.hid (fun hF => insideB_len a hF.small)
  have NDA : Hid (NumD a.d) := Lib.hid ⟨wa.h, fun v hv => by obtain ⟨y, hy, rfl⟩ := List.mem_map.1 hv; exact (wa.votes y hy).1⟩
  have SNA : Hid (∀ (n : Mm) w', n.d = a.d → Mod [] w w' → SeesM w' n → WfM n → Calls Tryd.prog 22 #[msgV n, msgV a] w' fun e w3 => e = .returned (.bool true) ∧ Mod [] w' w3) := Lib.hid (fun n w' hd m hs hn => by
    have h := msame_any n a w' hs (ha.mod0 m) hn wa
    rwa [decide_eq_true hd] at h)
  have SMN : Hid (∀ n : Mm, n.d = a.d → FineM a → SmallM n) := Lib.hid (fun n hd hF => by
    have hs := hF.small
    have hv : dV n.votes = dV a.votes := congrArg Md.votes hd
    have hb : dB n.batches = dB a.batches := congrArg Md.batches hd
    have hp : n.p.1 = a.p.1 := congrArg Md.snap hd
    refine ⟨?_, fun v hv2 => ?_, ?_, fun b hb2 => ?_, ?_⟩
    · have := congrArg List.length hv
      rw [dV_length, dV_length] at this
      rw [this]
      exact hs.votes
    · have h1 : (v.1, v.2.1) ∈ dV n.votes := List.mem_map.2 ⟨v, hv2, rfl⟩
      rw [hv] at h1
      obtain ⟨y, hy, e⟩ := List.mem_map.1 h1
      have e2 : y.2.1 = v.2.1 := congrArg Prod.snd e
      rw [← e2]
      exact hs.vote y hy
    · have := congrArg List.length hb
      rw [dB_length, dB_length] at this
      rw [this]
      exact hs.batches
    · have h1 : b.1 ∈ dB n.batches := List.mem_map.2 ⟨b, hb2, rfl⟩
      rw [hb] at h1
      obtain ⟨y, hy, e⟩ := List.mem_map.1 h1
      rw [← e]
      exact hs.batch y hy
    · rw [hp]
      exact hs.snap)
  have HF := Lib.hid hf
  have HT := Lib.hid hT
  rw [hva] at GA PTA SNA ⊢
  obtain ⟨d, hd⟩ : ∃ x, a.d = x := ⟨_, rfl⟩
  rw [hd] at PTA HSMA NDA SNA SMN
  clear hva hra ha wa hf hT hd
  have m1 := Mod.alloc [] w (.cells #[.int .u8 k, .int .u64 bn, .int .i64 br, .int .u64 f, .int .u64 l, .int .u64 c, .slice vo vl vc, .slice so bl sc, .slice po sl pc] 29)
  have hb1 := heap_alloc_new w (.cells #[.int .u8 k, .int .u64 bn, .int .i64 br, .int .u64 f, .int .u64 l, .int .u64 c, .slice vo vl vc, .slice so bl sc, .slice po sl pc] 29)
  obtain ⟨w1, hw1⟩ : ∃ x, w.alloc (.cells #[.int .u8 k, .int .u64 bn, .int .i64 br, .int .u64 f, .int .u64 l, .int .u64 c, .slice vo vl vc, .slice so bl sc, .slice po sl pc] 29) = x := ⟨_, rfl⟩
  rw [hw1] at m1 hb1
  have hzw : w.heap.size < w1.heap.size := lt_of_block hb1
  have M1 := Lib.hid m1
  have B1 := Lib.hid hb1
  obtain ⟨a0, a1, a2, a3, a4, a5, a6, a7, a8⟩ := box9 hb1 w1 (Mod.refl _ _)
  clear m1 hb1
  have HG := Lib.hid (GA.out w1 M1.out)
  go_enter Tryd.func9, Tryd.ntmps9
  go_wp2_with fail
  refine HG.out.mono ?_
  rintro e w3 ⟨⟨qa, rfl, hqa⟩, m3⟩
  have HFA := Lib.hid hqa
  have M3 := Lib.hid (M1.out.trans' m3)
  have B3 := Lib.hid (m3.get B1.out List.not_mem_nil)
  have hz3 : w1.heap.size ≤ w3.heap.size := m3.size
  clear hqa m3 a0 a1 a2 a3 a4 a5 a6 a7 a8 HG hw1 GA B1 M1
  cases qa
  case true =>
    have HW := Lib.hid (WK.out w3 M3.out)
    go_wp2_with fail
    refine HW.out.mono ?_
    rintro e wk ⟨rfl, mk⟩
    have MK := Lib.hid (M3.out.trans' mk)
    clear mk HW
    go_wp2_with fail
    go_ret
    exact ⟨rfl, MK.out⟩
  replace HFA := Lib.hid (HFA.out rfl)
  obtain ⟨a0, a1, a2, a3, a4, a5, a6, a7, a8⟩ := box9 B3.out w3 (Mod.refl _ _)
  have HP := Lib.hid (PTA.out HFA.out w3 M3.out)
  go_wp2_with fail
  refine HP.out.mono ?_
  rintro e w5 ⟨ya, na, yc, rfl, hna, hoa, m5, hyn⟩
  have M5 := Lib.hid (M3.out.trans' m5)
  have B5 := Lib.hid (m5.get B3.out List.not_mem_nil)
  have hz5 : w1.heap.size ≤ w5.heap.size := Nat.le_trans hz3 m5.size
  have HYN : Hid (∀ k, k ∈ blk ya → w1.heap.size ≤ k ∧ k < w5.heap.size) := Lib.hid (fun k hk => ⟨Nat.le_trans hz3 (hyn k hk), Own.lt hoa k hk⟩)
  clear m5 a0 a1 a2 a3 a4 a5 a6 a7 a8 HP B3 M3 hyn PTA
  by_cases hM : MayM d
  case neg =>
    rw [if_neg hM] at hna
    obtain rfl : na = 0 := hna.symm
    have e1 : checkE d = 1 := checkE_no hM
    rw [e1]
    clear hoa hM hna e1
    have HW := Lib.hid (WK.out w5 M5.out)
    go_wp2_with fail
    refine HW.out.mono ?_
    rintro e wk ⟨rfl, mk⟩
    have MK := Lib.hid (M5.out.trans' mk)
    clear mk HW
    go_wp2_with fail
    go_ret
    exact ⟨rfl, MK.out⟩
  have e0 : checkE d = 0 := if_pos hM
  rw [if_pos hM] at hna hoa
  rw [e0]
  subst hna
  have HM := Lib.hid hM
  have OY5 := Lib.hid hoa
  have hymax := own_max hoa
  have hlen : (msgB d).length ≤ 16000015 := by
    have := HSMA.out HFA.out
    rw [msgB_len]
    omega
  have TR : Hid (takeR (msgB d) = (0, d)) := Lib.hid (takeR_write d hM NDA.out (by omega))
  have cv := str_run (c := yc) hoa.sees
  have HC := Lib.hid (mtake_any ya (msgB d).length yc (msgB d) w5 rfl hymax.1 hymax.2 hoa.sees (HF.out.mod0 M5.out) (HT.out.mod0 M5.out))
  clear hoa e0 hM
  go_wp2_with fail
  refine HC.out.mono ?_
  rintro e w6 ⟨n1, rfl, hd1, nm1, -, m6⟩
  have M6 := Lib.hid (M5.out.trans' m6)
  have B6 := Lib.hid (m6.get B5.out List.not_mem_nil)
  have OY6 := Lib.hid (OwnB.mod0 OY5.out m6)
  have NM6 := Lib.hid nm1
  have hz6 := m6.size
  clear m6 HC cv B5 OY5 M5 hd1 nm1
  obtain ⟨⟨kd1, bn1, br1, f1, l1, c1⟩, vo1, vc1, votes1, so1, sc1, batches1, pl1, po1, pc1⟩ := n1
  have hmv : msgV ⟨⟨kd1, bn1, br1, f1, l1, c1⟩, vo1, vc1, votes1, so1, sc1, batches1, pl1, po1, pc1⟩ = .agg #[.int .u8 (kd1 : Int), .int .u64 (bn1 : Int), .int .i64 br1, .int .u64 (f1 : Int), .int .u64 (l1 : Int), .int .u64 (c1 : Int), .slice vo1 votes1.length vc1, .slice so1 batches1.length sc1, .slice po1 pl1.length pc1] := rfl
  obtain ⟨vl1, hvl1⟩ : ∃ x, votes1.length = x := ⟨_, rfl⟩
  obtain ⟨bl1, hbl1⟩ : ∃ x, batches1.length = x := ⟨_, rfl⟩
  obtain ⟨sl1, hsl1⟩ : ∃ x, pl1.length = x := ⟨_, rfl⟩
  rw [hvl1, hbl1, hsl1] at hmv
  rw [hmv]
  have HVL1 := Lib.hid hvl1
  have HBL1 := Lib.hid hbl1
  have HSL1 := Lib.hid hsl1
  clear hmv hvl1 hbl1 hsl1
  obtain ⟨wz, hwz, hbz, hmz⟩ : ∃ x, w6.alloc (.cells #[.int .u8 0, .int .u64 0, .int .i64 0, .int .u64 0, .int .u64 0, .int .u64 0, .slice none 0 0, .slice none 0 0, .slice none 0 0] 29) = x ∧ x.heap[w6.heap.size]? = some (.cells #[.int .u8 0, .int .u64 0, .int .i64 0, .int .u64 0, .int .u64 0, .int .u64 0, .slice none 0 0, .slice none 0 0, .slice none 0 0] 29 (0, 0)) ∧ Mod [] w6 x := ⟨_, rfl, heap_alloc_new w6 _, Mod.alloc _ _ _⟩
  have z0 := cell_of_block (i := 0) hbz
  have y0 := free_of_block (i := 0) hbz
  have z1 := cell_of_block (i := 1) hbz
  have y1 := free_of_block (i := 1) hbz
  have z2 := cell_of_block (i := 2) hbz
  have y2 := free_of_block (i := 2) hbz
  have z3 := cell_of_block (i := 3) hbz
  have y3 := free_of_block (i := 3) hbz
  have z4 := cell_of_block (i := 4) hbz
  have y4 := free_of_block (i := 4) hbz
  have z5 := cell_of_block (i := 5) hbz
  have y5 := free_of_block (i := 5) hbz
  have z6 := cell_of_block (i := 6) hbz
  have y6 := free_of_block (i := 6) hbz
  have z7 := cell_of_block (i := 7) hbz
  have y7 := free_of_block (i := 7) hbz
  have z8 := cell_of_block (i := 8) hbz
  have y8 := free_of_block (i := 8) hbz
  simp only [List.getElem?_toArray, List.getElem?_cons_succ, List.getElem?_cons_zero] at z0 z1 z2 z3 z4 z5 z6 z7 z8
  go_upto_region 8 with (fail)
  obtain ⟨w7, hw7⟩ : ∃ x, (((((((((wz.setCell ⟨w6.heap.size, 0, none⟩ (.int .u8 (kd1 : Int))).setCell ⟨w6.heap.size, 1, none⟩ (.int .u64 (bn1 : Int))).setCell ⟨w6.heap.size, 2, none⟩ (.int .i64 br1)).setCell ⟨w6.heap.size, 3, none⟩ (.int .u64 (f1 : Int))).setCell ⟨w6.heap.size, 4, none⟩ (.int .u64 (l1 : Int))).setCell ⟨w6.heap.size, 5, none⟩ (.int .u64 (c1 : Int))).setCell ⟨w6.heap.size, 6, none⟩ (.slice vo1 vl1 vc1)).setCell ⟨w6.heap.size, 7, none⟩ (.slice so1 bl1 sc1)).setCell ⟨w6.heap.size, 8, none⟩ (.slice po1 sl1 pc1)) = x := ⟨_, rfl⟩
  rw [hw7]
  have hbw7 : w7.heap[w6.heap.size]? = some (.cells #[.int .u8 (kd1 : Int), .int .u64 (bn1 : Int), .int .i64 br1, .int .u64 (f1 : Int), .int .u64 (l1 : Int), .int .u64 (c1 : Int), .slice vo1 vl1 vc1, .slice so1 bl1 sc1, .slice po1 sl1 pc1] 29 (0, 0)) := by
    rw [← hw7]
    have h := (heap_setCell_same (i := 8) (heap_setCell_same (i := 7) (heap_setCell_same (i := 6) (heap_setCell_same (i := 5) (heap_setCell_same (i := 4) (heap_setCell_same (i := 3) (heap_setCell_same (i := 2) (heap_setCell_same (i := 1) (heap_setCell_same (i := 0) hbz (.int .u8 (kd1 : Int))) (.int .u64 (bn1 : Int))) (.int .i64 br1)) (.int .u64 (f1 : Int))) (.int .u64 (l1 : Int))) (.int .u64 (c1 : Int))) (.slice vo1 vl1 vc1)) (.slice so1 bl1 sc1)) (.slice po1 sl1 pc1))
    simp only [List.setIfInBounds_toArray, List.set_cons_zero, List.set_cons_succ] at h
    exact h
  have mw7 : Mod [] w6 w7 := by
    rw [← hw7]
    exact hmz.trans (T := [w6.heap.size]) (((((((((Mod.setCell _ _ _ (by simp)).trans' (Mod.setCell _ _ _ (by simp))).trans' (Mod.setCell _ _ _ (by simp))).trans' (Mod.setCell _ _ _ (by simp))).trans' (Mod.setCell _ _ _ (by simp))).trans' (Mod.setCell _ _ _ (by simp))).trans' (Mod.setCell _ _ _ (by simp))).trans' (Mod.setCell _ _ _ (by simp))).trans' (Mod.setCell _ _ _ (by simp))) (by simp)
  clear z0 z1 z2 z3 z4 z5 z6 z7 z8 y0 y1 y2 y3 y4 y5 y6 y7 y8 hbz hmz hwz hw7
  have ML := Lib.hid NM6.out.mlo
  have HYX : Hid (∀ k, k ∈ blk ya → w1.heap.size ≤ k ∧ k < w6.heap.size) := Lib.hid (fun k hk => ⟨(HYN.out k hk).1, Nat.lt_of_lt_of_le (HYN.out k hk).2 hz6⟩)
  have hz7 : w6.heap.size < w7.heap.size := lt_of_block hbw7
  obtain ⟨xa, hxa⟩ : ∃ x, w6.heap.size = x := ⟨_, rfl⟩
  rw [hxa] at hbw7 ML HYX hz7 ⊢
  have hxa1 : w1.heap.size ≤ xa := by omega
  have M7 := Lib.hid (M6.out.trans' mw7)
  have BM7 := Lib.hid (mw7.get B6.out List.not_mem_nil)
  have BA7 := Lib.hid hbw7
  have OY7 := Lib.hid (OwnB.mod0 OY6.out mw7)
  have NM7 := Lib.hid ((NM6.out.mod0 mw7).grow (B' := w1.heap.size) hz5)
  clear mw7 hbw7 B6 OY6 NM6 M6 HYN hxa
  have HC := Lib.hid (mtake_any ya (msgB d).length yc (msgB d) w7 rfl hymax.1 hymax.2 OY7.out.sees (HF.out.mod0 M7.out) (HT.out.mod0 M7.out))
  go_wp2_with fail
  refine HC.out.mono ?_
  rintro e w8 ⟨n2, rfl, hd2, nm2, wf2, m8⟩
  rw [TR.out] at hd2
  have HD2 : Hid (n2.d = d) := Lib.hid hd2
  have WF2 := Lib.hid wf2
  have M8 := Lib.hid (M7.out.trans' m8)
  have BM8 := Lib.hid (m8.get BM7.out List.not_mem_nil)
  have BA8 := Lib.hid (m8.get BA7.out List.not_mem_nil)
  have OY8 := Lib.hid (OwnB.mod0 OY7.out m8)
  have NM8 := Lib.hid (NM7.out.mod0 m8)
  have NC8 := Lib.hid nm2
  have hz8 := m8.size
  obtain ⟨k2, bn2, br2, f2, l2, c2, vo2, vl2, vc2, so2, bl2, sc2, po2, sl2, pc2, hv2, hr2⟩ := mshape n2
  rw [hv2]
  have HV2 := Lib.hid hv2
  clear hd2 nm2 wf2 m8 hv2 hr2 HC M7 BM7 BA7 OY7 NM7
  obtain ⟨wz', hwz, hbz, hmz⟩ : ∃ x, w8.alloc (.cells #[.int .u8 0, .int .u64 0, .int .i64 0, .int .u64 0, .int .u64 0, .int .u64 0, .slice none 0 0, .slice none 0 0, .slice none 0 0] 29) = x ∧ x.heap[w8.heap.size]? = some (.cells #[.int .u8 0, .int .u64 0, .int .i64 0, .int .u64 0, .int .u64 0, .int .u64 0, .slice none 0 0, .slice none 0 0, .slice none 0 0] 29 (0, 0)) ∧ Mod [] w8 x := ⟨_, rfl, heap_alloc_new w8 _, Mod.alloc _ _ _⟩
  have z0 := cell_of_block (i := 0) hbz
  have y0 := free_of_block (i := 0) hbz
  have z1 := cell_of_block (i := 1) hbz
  have y1 := free_of_block (i := 1) hbz
  have z2 := cell_of_block (i := 2) hbz
  have y2 := free_of_block (i := 2) hbz
  have z3 := cell_of_block (i := 3) hbz
  have y3 := free_of_block (i := 3) hbz
  have z4 := cell_of_block (i := 4) hbz
  have y4 := free_of_block (i := 4) hbz
  have z5 := cell_of_block (i := 5) hbz
  have y5 := free_of_block (i := 5) hbz
  have z6 := cell_of_block (i := 6) hbz
  have y6 := free_of_block (i := 6) hbz
  have z7 := cell_of_block (i := 7) hbz
  have y7 := free_of_block (i := 7) hbz
  have z8 := cell_of_block (i := 8) hbz
  have y8 := free_of_block (i := 8) hbz
  simp only [List.getElem?_toArray, List.getElem?_cons_succ, List.getElem?_cons_zero] at z0 z1 z2 z3 z4 z5 z6 z7 z8
  go_upto_region 9 with (fail)
  obtain ⟨w9, hw9⟩ : ∃ x, (((((((((wz'.setCell ⟨w8.heap.size, 0, none⟩ (.int .u8 k2)).setCell ⟨w8.heap.size, 1, none⟩ (.int .u64 bn2)).setCell ⟨w8.heap.size, 2, none⟩ (.int .i64 br2)).setCell ⟨w8.heap.size, 3, none⟩ (.int .u64 f2)).setCell ⟨w8.heap.size, 4, none⟩ (.int .u64 l2)).setCell ⟨w8.heap.size, 5, none⟩ (.int .u64 c2)).setCell ⟨w8.heap.size, 6, none⟩ (.slice vo2 vl2 vc2)).setCell ⟨w8.heap.size, 7, none⟩ (.slice so2 bl2 sc2)).setCell ⟨w8.heap.size, 8, none⟩ (.slice po2 sl2 pc2)) = x := ⟨_, rfl⟩
  rw [hw9]
  have hbw9 : w9.heap[w8.heap.size]? = some (.cells #[.int .u8 k2, .int .u64 bn2, .int .i64 br2, .int .u64 f2, .int .u64 l2, .int .u64 c2, .slice vo2 vl2 vc2, .slice so2 bl2 sc2, .slice po2 sl2 pc2] 29 (0, 0)) := by
    rw [← hw9]
    have h := (heap_setCell_same (i := 8) (heap_setCell_same (i := 7) (heap_setCell_same (i := 6) (heap_setCell_same (i := 5) (heap_setCell_same (i := 4) (heap_setCell_same (i := 3) (heap_setCell_same (i := 2) (heap_setCell_same (i := 1) (heap_setCell_same (i := 0) hbz (.int .u8 k2)) (.int .u64 bn2)) (.int .i64 br2)) (.int .u64 f2)) (.int .u64 l2)) (.int .u64 c2)) (.slice vo2 vl2 vc2)) (.slice so2 bl2 sc2)) (.slice po2 sl2 pc2))
    simp only [List.setIfInBounds_toArray, List.set_cons_zero, List.set_cons_succ] at h
    exact h
  have mw9 : Mod [] w8 w9 := by
    rw [← hw9]
    exact hmz.trans (T := [w8.heap.size]) (((((((((Mod.setCell _ _ _ (by simp)).trans' (Mod.setCell _ _ _ (by simp))).trans' (Mod.setCell _ _ _ (by simp))).trans' (Mod.setCell _ _ _ (by simp))).trans' (Mod.setCell _ _ _ (by simp))).trans' (Mod.setCell _ _ _ (by simp))).trans' (Mod.setCell _ _ _ (by simp))).trans' (Mod.setCell _ _ _ (by simp))).trans' (Mod.setCell _ _ _ (by simp))) (by simp)
  clear z0 z1 z2 z3 z4 z5 z6 z7 z8 y0 y1 y2 y3 y4 y5 y6 y7 y8 hbz hmz hwz hw9
  obtain ⟨xc, hxc⟩ : ∃ x, w8.heap.size = x := ⟨_, rfl⟩
  rw [hxc] at hbw9 hz8 ⊢
  have M9 := Lib.hid (M8.out.trans' mw9)
  have BM9 := Lib.hid (mw9.get BM8.out List.not_mem_nil)
  have BA9 := Lib.hid (mw9.get BA8.out List.not_mem_nil)
  have BC9 := Lib.hid hbw9
  have NM9 := Lib.hid (NM8.out.mod0 mw9)
  have NC9 := Lib.hid ((NC8.out.mod0 mw9).grow (B' := xa) (by omega))
  have WM9 := Lib.hid NM9.out.wk
  have hxc1 : xa ≤ xc := by omega
  obtain ⟨yl, hyl⟩ : ∃ x, (msgB d).length = x := ⟨_, rfl⟩
  have YB9 : Hid (WkB w9 ya yc yl) := Lib.hid ⟨_, hyl, OwnB.mod0 OY8.out mw9⟩
  rw [hyl] at hlen ⊢
  have HYL := Lib.hid hyl
  obtain ⟨K, hK⟩ : ∃ K, Betw w1.heap.size xa = K := ⟨_, rfl⟩
  have HK : Hid (∀ k, k ∈ K ↔ w1.heap.size ≤ k ∧ k < xa) := Lib.hid (fun k => by rw [← hK]; exact mem_betw)
  have AY : Hid (∀ k, k ∈ blk ya → k ∈ K) := Lib.hid (fun k hk => (HK.out k).2 (HYX.out k hk))
  have AO : Hid (∀ k, k ∈ blk vo1 → k ∈ K) := Lib.hid (fun k hk => (HK.out k).2 ⟨NM9.out.votes.at' k hk, ML.out.vo k hk⟩)
  have AV : Hid (∀ v ∈ votes1, ∀ k, k ∈ blk v.2.2.1 → k ∈ K) := Lib.hid (fun v hv k hk => (HK.out k).2 ⟨(NM9.out.votes.el v hv).2 k hk, ML.out.ve v hv k hk⟩)
  have AB : Hid (∀ b ∈ batches1, ∀ k, k ∈ blk b.2.1 → k ∈ K) := Lib.hid (fun b hb k hk => (HK.out k).2 ⟨(NM9.out.batches.el b hb).2 k hk, ML.out.be b hb k hk⟩)
  have AP : Hid (∀ k, k ∈ blk po1 → k ∈ K) := Lib.hid (fun k hk => (HK.out k).2 ⟨NM9.out.snap.2 k hk, ML.out.p k hk⟩)
  have MK : Hid (∀ wr, Mod K w9 wr → Mod [] w wr ∧ wr.heap[w.heap.size]? = some (.cells #[.int .u8 k, .int .u64 bn, .int .i64 br, .int .u64 f, .int .u64 l, .int .u64 c, .slice vo vl vc, .slice so bl sc, .slice po sl pc] 29 (0, 0)) ∧ wr.heap[xa]? = some (.cells #[.int .u8 (kd1 : Int), .int .u64 (bn1 : Int), .int .i64 br1, .int .u64 (f1 : Int), .int .u64 (l1 : Int), .int .u64 (c1 : Int), .slice vo1 vl1 vc1, .slice so1 bl1 sc1, .slice po1 sl1 pc1] 29 (0, 0)) ∧ wr.heap[xc]? = some (.cells #[.int .u8 k2, .int .u64 bn2, .int .i64 br2, .int .u64 f2, .int .u64 l2, .int .u64 c2, .slice vo2 vl2 vc2, .slice so2 bl2 sc2, .slice po2 sl2 pc2] 29 (0, 0)) ∧ NewM xa wr n2) := Lib.hid (fun wr m => by
    have h1 : ∀ k, k ∈ K → w1.heap.size ≤ k ∧ k < xa := fun k hk => (HK.out k).1 hk
    exact ⟨M9.out.trans m (fun k hk hl => by have := h1 k hk; omega), m.get BM9.out (fun hk => by have := h1 _ hk; omega), m.get BA9.out (fun hk => by have := h1 _ hk; omega), m.get BC9.out (fun hk => by have := h1 _ hk; omega), NC9.out.off m (fun k hk => (h1 k hk).2)⟩)
  clear mw9 hbw9 M8 BM8 BA8 OY8 NM8 NC8 hyl hK ML HYX NM9 hxc BM9 BA9 BC9 NC9 M9 hymax NDA HSMA
  go_wp2_with fail
  go_loopw [10] (fun s10 wr => ∃ i : Nat, i ≤ yl ∧ s10 = .int .i64 (i : Int) ∧ WkB wr ya yc yl ∧ WkM wr ⟨⟨kd1, bn1, br1, f1, l1, c1⟩, vo1, vc1, votes1, so1, sc1, batches1, pl1, po1, pc1⟩ ∧ Mod K w9 wr) (fun s10 _ => yl - (intOf s10).toNat)
  case atStart => exact ⟨0, Nat.zero_le _, rfl, YB9.out, WM9.out, Mod.refl _ _⟩
  case round =>
    obtain ⟨i, hi, rfl, hyb, hwm, hm⟩ := hrel
    rename World => wA
    have YB := Lib.hid hyb
    have WM := Lib.hid hwm
    have MM := Lib.hid hm
    clear hyb hwm hm YB9 WM9
    by_cases hlt : i < yl
    case pos =>
      have hlt2 : (i : Int) < (yl : Int) := by omega
      obtain ⟨g, x, rfl, p, f⟩ := YB.out.cell hlt
      have HI := Lib.hid (inc_byte x)
      go_wp2_with fail
      go_roundw
      case rel =>
        refine ⟨i + 1, by omega, by go_num, ?_, ?_, MM.out.trans' (Mod.setCell _ _ _ (AY.out g (by simp [blk])))⟩
        · rw [HI.out]; exact YB.out.set g i _
        · rw [HI.out]; exact WM.out.set YB.out i _
      case measure => simp [intOf]; omega
    have hie : i = yl := by omega
    subst hie
    clear YB hlt hi
    have hvb : vl1 ≤ 9223372036854775807 := by have := own_max WM.out.votes; have := HVL1.out; dsimp only at *; omega
    have hbb : bl1 ≤ 9223372036854775807 := by have := own_max WM.out.batches; have := HBL1.out; dsimp only at *; omega
    have hsb : sl1 ≤ 9223372036854775807 := by have := WM.out.snap.max; have := HSL1.out; dsimp only at *; omega
    go_wp2_with fail
    go_loopw [11] (fun s11 wr => ∃ (i : Nat) (vs : List Vm), i ≤ vl1 ∧ s11 = .int .i64 (i : Int) ∧ vs.length = vl1 ∧ vs.map Prod.snd = votes1.map Prod.snd ∧ WkM wr ⟨⟨kd1, bn1, br1, f1, l1, c1⟩, vo1, vc1, vs, so1, sc1, batches1, pl1, po1, pc1⟩ ∧ Mod K w9 wr) (fun s11 _ => vl1 - (intOf s11).toNat)
    case atStart => exact ⟨0, votes1, Nat.zero_le _, rfl, HVL1.out, rfl, WM.out, MM.out⟩
    case round =>
      obtain ⟨i, vs, hi, rfl, hvs, hmp, hwm, hm⟩ := hrel
      rename World => wB
      have WM2 := Lib.hid hwm
      have MM2 := Lib.hid hm
      have HVS := Lib.hid hvs
      have HMP := Lib.hid hmp
      clear hwm hm hvs hmp WM MM
      obtain ⟨-, -, hba, -, -⟩ := MK.out wB MM2.out
      have c6 := cell_of_block (i := 6) hba
      simp only [List.getElem?_toArray, List.getElem?_cons_succ, List.getElem?_cons_zero] at c6
      clear hba
      by_cases hlt : i < vl1
      case pos =>
        have hlt2 : (i : Int) < (vl1 : Int) := by omega
        have hil : i < vs.length := by rw [HVS.out]; exact hlt
        obtain ⟨g, hvo, q0, qf, q3, hq⟩ := WM2.out.vote hil
        obtain ⟨hil2, hsnd⟩ := map_snd_at HMP.out hil
        have hKX : ∀ k, k ∈ blk vs[i].2.2.1 → k ∈ K := by rw [hsnd]; exact AV.out _ (List.getElem_mem hil2)
        have hset := map_snd_set vs hil ⟨0, vs[i].1.n, vs[i].1.r⟩
        have hslot := fun (w' : World) (h : WkM w' ⟨⟨kd1, bn1, br1, f1, l1, c1⟩, vo1, vc1, vs, so1, sc1, batches1, pl1, po1, pc1⟩) => h.slot hil hvo 0
        have hvote := fun (w' : World) (h : WkM w' ⟨⟨kd1, bn1, br1, f1, l1, c1⟩, vo1, vc1, vs, so1, sc1, batches1, pl1, po1, pc1⟩) => h.vote hil
        dsimp only at hvo q0 qf q3 hq hslot hvote
        have hKV : g ∈ K := AO.out g (by rw [hvo]; simp [blk])
        subst hvo
        obtain ⟨⟨⟨sl, vn, vr⟩, tx, xo, xcap⟩, hx⟩ : ∃ x, vs[i] = x := ⟨_, rfl⟩
        rw [hx] at q0 q3 hq hKX hset hslot hvote
        dsimp only at q0 q3 hq hKX hset hslot hvote
        obtain ⟨ln, hln⟩ : ∃ x, tx.length = x := ⟨_, rfl⟩
        rw [hln] at q3 hq hvote
        have hlb := hq.max
        have HVOTE := Lib.hid hvote
        have HSLOT := Lib.hid hslot
        have HSET := Lib.hid hset
        have HKX := Lib.hid hKX
        have HX := Lib.hid hx
        clear hx hln hslot hvote hset hKX hsnd q0 qf hq
        go_wp2_with fail
        go_loopw [12] (fun s12 wr => ∃ j : Nat, j ≤ ln ∧ s12 = .int .i64 (j : Int) ∧ WkM wr ⟨⟨kd1, bn1, br1, f1, l1, c1⟩, some ⟨g, 0, none⟩, vc1, vs, so1, sc1, batches1, pl1, po1, pc1⟩ ∧ Mod K w9 wr) (fun s12 _ => ln - (intOf s12).toNat)
        case atStart => exact ⟨0, Nat.zero_le _, rfl, WM2.out, MM2.out⟩
        case round =>
          obtain ⟨j, hj, rfl, hwm, hm⟩ := hrel
          rename World => wC
          have WM3 := Lib.hid hwm
          have MM3 := Lib.hid hm
          clear hwm hm WM2 MM2 q3 c6
          obtain ⟨-, -, hba, -, -⟩ := MK.out wC MM3.out
          have c6 := cell_of_block (i := 6) hba
          simp only [List.getElem?_toArray, List.getElem?_cons_succ, List.getElem?_cons_zero] at c6
          obtain ⟨g', hg', q0, qf, q3, hq⟩ := HVOTE.out wC WM3.out
          cases hg'
          have HQ := Lib.hid hq
          clear hba hq
          by_cases hjl : j < ln
          case pos =>
            have hjl2 : (j : Int) < (ln : Int) := by omega
            obtain ⟨gx, y, rfl, p, f⟩ := HQ.out.cell hjl
            have HI := Lib.hid (inc_byte y)
            have hgx : gx ∈ K := HKX.out gx (by simp [blk])
            go_wp2_with fail
            go_roundw
            case rel =>
              refine ⟨j + 1, by omega, by go_num, ?_, MM3.out.trans' (Mod.setCell _ _ _ hgx)⟩
              rw [HI.out]; exact WM3.out.set HQ.out j _
            case measure => simp [intOf]; omega
          have hje : j = ln := by omega
          subst hje
          have HS9 := Lib.hid (HSLOT.out wC WM3.out)
          go_wp2_with fail
          go_roundw
          case rel => exact ⟨i + 1, _, by omega, by go_num, by rw [List.length_set]; exact HVS.out, HSET.out.trans HMP.out, HS9.out, MM3.out.trans' (Mod.setCell _ _ _ hKV)⟩
          case measure => simp [intOf]; omega
      have hie : i = vl1 := by omega
      subst hie
      clear hlt hi
      go_wp2_with fail
      go_loopw [13] (fun s13 wr => ∃ i : Nat, i ≤ bl1 ∧ s13 = .int .i64 (i : Int) ∧ WkM wr ⟨⟨kd1, bn1, br1, f1, l1, c1⟩, vo1, vc1, vs, so1, sc1, batches1, pl1, po1, pc1⟩ ∧ Mod K w9 wr) (fun s13 _ => bl1 - (intOf s13).toNat)
      case atStart => exact ⟨0, Nat.zero_le _, rfl, WM2.out, MM2.out⟩
      case round =>
        obtain ⟨i, hi, rfl, hwm, hm⟩ := hrel
        rename World => wC
        have WM4 := Lib.hid hwm
        have MM4 := Lib.hid hm
        clear hwm hm WM2 MM2
        obtain ⟨-, -, hba, -, -⟩ := MK.out wC MM4.out
        have c7 := cell_of_block (i := 7) hba
        simp only [List.getElem?_toArray, List.getElem?_cons_succ, List.getElem?_cons_zero] at c7
        clear hba
        by_cases hlt : i < bl1
        case pos =>
          have hlt2 : (i : Int) < (bl1 : Int) := by omega
          have hil : i < batches1.length := by rw [HBL1.out]; exact hlt
          obtain ⟨g, hso, q3, hq⟩ := WM4.out.batch hil
          have hKX : ∀ k, k ∈ blk batches1[i].2.1 → k ∈ K := AB.out _ (List.getElem_mem hil)
          have hbatch := fun (w' : World) (h : WkM w' ⟨⟨kd1, bn1, br1, f1, l1, c1⟩, vo1, vc1, vs, so1, sc1, batches1, pl1, po1, pc1⟩) => h.batch hil
          dsimp only at hso q3 hq hbatch
          subst hso
          obtain ⟨⟨tx, xo, xcap⟩, hx⟩ : ∃ x, batches1[i] = x := ⟨_, rfl⟩
          rw [hx] at q3 hq hKX hbatch
          dsimp only at q3 hq hKX hbatch
          obtain ⟨ln, hln⟩ : ∃ x, tx.length = x := ⟨_, rfl⟩
          rw [hln] at q3 hq hbatch
          have hlb := hq.max
          have HBATCH := Lib.hid hbatch
          have HKX := Lib.hid hKX
          clear hx hln hbatch hKX hq
          go_wp2_with fail
          go_loopw [14] (fun s14 wr => ∃ j : Nat, j ≤ ln ∧ s14 = .int .i64 (j : Int) ∧ WkM wr ⟨⟨kd1, bn1, br1, f1, l1, c1⟩, vo1, vc1, vs, some ⟨g, 0, none⟩, sc1, batches1, pl1, po1, pc1⟩ ∧ Mod K w9 wr) (fun s14 _ => ln - (intOf s14).toNat)
          case atStart => exact ⟨0, Nat.zero_le _, rfl, WM4.out, MM4.out⟩
          case round =>
            obtain ⟨j, hj, rfl, hwm, hm⟩ := hrel
            rename World => wD
            have WM5 := Lib.hid hwm
            have MM5 := Lib.hid hm
            clear hwm hm WM4 MM4 q3 c7
            obtain ⟨-, -, hba, -, -⟩ := MK.out wD MM5.out
            have c7 := cell_of_block (i := 7) hba
            simp only [List.getElem?_toArray, List.getElem?_cons_succ, List.getElem?_cons_zero] at c7
            obtain ⟨g', hg', q3, hq⟩ := HBATCH.out wD WM5.out
            cases hg'
            have HQ := Lib.hid hq
            clear hba hq
            by_cases hjl : j < ln
            case pos =>
              have hjl2 : (j : Int) < (ln : Int) := by omega
              obtain ⟨gx, y, rfl, p, f⟩ := HQ.out.cell hjl
              have HI := Lib.hid (inc_byte y)
              have hgx : gx ∈ K := HKX.out gx (by simp [blk])
              go_wp2_with fail
              go_roundw
              case rel =>
                refine ⟨j + 1, by omega, by go_num, ?_, MM5.out.trans' (Mod.setCell _ _ _ hgx)⟩
                rw [HI.out]; exact WM5.out.set HQ.out j _
              case measure => simp [intOf]; omega
            have hje : j = ln := by omega
            subst hje
            go_wp2_with fail
            go_roundw
            case rel => exact ⟨i + 1, by omega, by go_num, WM5.out, MM5.out⟩
            case measure => simp [intOf]; omega
        have hie : i = bl1 := by omega
        subst hie
        clear hlt hi
        go_wp2_with fail
        go_loopw [15] (fun s15 wr => ∃ i : Nat, i ≤ sl1 ∧ s15 = .int .i64 (i : Int) ∧ WkM wr ⟨⟨kd1, bn1, br1, f1, l1, c1⟩, vo1, vc1, vs, so1, sc1, batches1, pl1, po1, pc1⟩ ∧ Mod K w9 wr) (fun s15 _ => sl1 - (intOf s15).toNat)
        case atStart => exact ⟨0, Nat.zero_le _, rfl, WM4.out, MM4.out⟩
        case round =>
          obtain ⟨i, hi, rfl, hwm, hm⟩ := hrel
          rename World => wD
          have WM5 := Lib.hid hwm
          have MM5 := Lib.hid hm
          clear hwm hm WM4 MM4
          obtain ⟨hm0, hbm, hba, hbc, hnc⟩ := MK.out wD MM5.out
          have M0 := Lib.hid hm0
          have BM := Lib.hid hbm
          have BC := Lib.hid hbc
          have NC := Lib.hid hnc
          have c8 := cell_of_block (i := 8) hba
          simp only [List.getElem?_toArray, List.getElem?_cons_succ, List.getElem?_cons_zero] at c8
          clear hm0 hbm hba hbc hnc
          by_cases hlt : i < sl1
          case pos =>
            have hlt2 : (i : Int) < (sl1 : Int) := by omega
            have hq := WM5.out.snap
            dsimp only at hq
            rw [HSL1.out] at hq
            have HQ := Lib.hid hq
            clear hq
            obtain ⟨gx, y, rfl, p, f⟩ := HQ.out.cell hlt
            have HI := Lib.hid (inc_byte y)
            have hgx : gx ∈ K := AP.out gx (by simp [blk])
            go_wp2_with fail
            go_roundw
            case rel =>
              refine ⟨i + 1, by omega, by go_num, ?_, MM5.out.trans' (Mod.setCell _ _ _ hgx)⟩
              rw [HI.out]; exact WM5.out.set HQ.out i _
            case measure => simp [intOf]; omega
          have hie : i = sl1 := by omega
          subst hie
          have LC := Lib.hid (box9 BC.out)
          have LM := Lib.hid (box9 BM.out)
          obtain ⟨d0, d1, d2, d3, d4, d5, d6, d7, d8⟩ := LC.out wD (Mod.refl _ _)
          have HP := Lib.hid (mput_any n2 wD NC.out.sees WF2.out (SMN.out n2 HD2.out HFA.out) (HF.out.mod0 M0.out) (HT.out.mod0 M0.out))
          rw [HV2.out, HD2.out] at HP
          clear hlt hi WM5 MM5 MK AP AB AV AO AY BM BC
          go_wp2_with fail
          refine HP.out.mono ?_
          rintro e wE ⟨za, zn, zc, rfl, hzn, hza, mE, -⟩
          have hM := HM.out
          have e0 : checkE d = 0 := if_pos hM
          rw [if_pos hM] at hzn hza
          rw [e0]
          have ME := Lib.hid (M0.out.trans' mE)
          have LC2 : Hid (∀ w', Mod [] wE w' → _) := Lib.hid (fun w' h => LC.out w' (mE.trans' h))
          have LM2 : Hid (∀ w', Mod [] wE w' → _) := Lib.hid (fun w' h => LM.out w' (mE.trans' h))
          have NE := Lib.hid (NC.out.mod0 mE)
          have OZ := Lib.hid hza
          have SN2 : Hid (∀ w', Mod [] wE w' → _) := Lib.hid (fun w' m => SNA.out n2 w' HD2.out (ME.out.trans' m) (NE.out.sees.mod0 m) WF2.out)
          rw [HV2.out] at SN2
          subst hzn
          clear hza mE hM e0 HP M0 LC LM NC d0 d1 d2 d3 d4 d5 d6 d7 d8
          have cv := str_run (c := zc) OZ.out.sees
          have DE : ((⟨(msgB d).toArray⟩ : ByteArray).toList == (⟨(msgB d).toArray⟩ : ByteArray).toList) = true := by simp
          obtain ⟨d0, d1, d2, d3, d4, d5, d6, d7, d8⟩ := LC2.out wE (Mod.refl _ _)
          obtain ⟨e0, e1, e2, e3, e4, e5, e6, e7, e8⟩ := LM2.out wE (Mod.refl _ _)
          have HX := Lib.hid (SN2.out wE (Mod.refl _ _))
          go_wp2_with fail
          refine HX.out.mono ?_
          rintro e wG ⟨rfl, mG⟩
          have MG := Lib.hid (ME.out.trans' mG)
          clear mG HX ME LC2 LM2 d0 d1 d2 d3 d4 d5 d6 d7 d8 e0 e1 e2 e3 e4 e5 e6 e7 e8 cv
          have HX := Lib.hid (WK.out wG MG.out)
          go_wp2_with fail
          refine HX.out.mono ?_
          rintro e wH ⟨rfl, mH⟩
          have MH := Lib.hid (MG.out.trans' mH)
          clear mH HX
          go_wp2_with fail
          go_ret
          exact ⟨rfl, MH.out⟩
end Go.Proofs.YtekdnljincbghaaDoor
