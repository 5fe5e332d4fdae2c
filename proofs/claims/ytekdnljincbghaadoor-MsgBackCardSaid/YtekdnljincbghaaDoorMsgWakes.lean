/- The walk of the message laws' wakes. -/
import Derived.Test.YtekdnljincbghaaDoorMsgLaw2
import Derived.Test.YtekdnljincbghaaDoorMsg16
import Derived.Lib.SlBytesConst
import Derived.Test.YtekdnljincbghaaDoorRegionU
namespace Go.Proofs.YtekdnljincbghaaDoor
open Go Go.RowKit Go.Lib

def dW : Md := ⟨⟨4, 1, 0, 5, 0, 4⟩, [], [[120]], []⟩
theorem dW_may : MayM dW := by decide +kernel
theorem dW_num : NumD dW := by
  refine ⟨?_, by intro v hv; cases hv⟩
  unfold WfH dW
  dsimp only
  omega
theorem dW_in : insideB dW = [4, 1, 0, 4, 5, 1, 1, 120] := by decide +kernel
theorem dW_bytes : msgB dW = sum4 (insideB dW) ++ [4, 1, 0, 4, 5, 1, 1, 120] := by unfold msgB; rw [dW_in]
theorem dW_len : (msgB dW).length = 12 := by rw [dW_bytes]; rfl
theorem dW_take : takeR (msgB dW) = (0, dW) := takeR_write dW dW_may dW_num (by rw [dW_len]; omega)
theorem dW_at : ∀ h : 7 < (msgB dW).length, (msgB dW)[7] = 4 := by
  intro h
  have e : (msgB dW)[7]? = some 4 := by rw [dW_bytes]; rfl
  rw [List.getElem?_eq_getElem h] at e
  exact Option.some.inj e
theorem dW_flip : takeR ((msgB dW).set 7 5) = (12, (mz 0).d) := by
  have h := takeR_flip (msgB dW) 56 (by rw [dW_len]; omega) (by rw [msgB_take, msgB_drop]) (by rw [dW_len]; omega)
  have e := flip_set (msgB dW) 56 (by rw [dW_len]; omega)
  rw [e] at h
  have e7 : (msgB dW)[56 / 8]'(by rw [dW_len]; omega) = 4 := dW_at (by rw [dW_len]; omega)
  rw [e7] at h
  exact h
def d6 (n : Nat) : Md := ⟨⟨6, 0, 0, n, 0, 0⟩, [], [], []⟩
theorem d6_no : checkE (d6 0) = 1 := checkE_no (by decide +kernel)
theorem d6_yes : checkE (d6 1) = 0 := if_pos (by decide +kernel)
def m6 (n : Nat) : Mm := ⟨⟨6, 0, 0, n, 0, 0⟩, none, 0, [], none, 0, [], ([], none, 0)⟩
theorem m6_sees (n : Nat) (w : World) : SeesM w (m6 n) := ⟨fun j h => absurd h (by simp [m6]), fun j h => absurd h (by simp [m6]), Sees.nil _ _⟩
theorem m6_wf (n : Nat) (h : n < 2) : WfM (m6 n) := by
  refine ⟨?_, Nat.zero_le _, by simp [m6], Nat.zero_le _, by simp [m6], ?_⟩
  · unfold WfH m6; dsimp only; omega
  · unfold WfB m6; dsimp only; simp
set_option maxRecDepth 100000 in
set_option maxHeartbeats 8000000 in
theorem wakes17_any (w : World) (hf : Flds w) (hT : TableAt w T0) : Calls Tryd.prog 11 #[] w fun e w' => e = .returned (.bool true) ∧ Mod [] w w' := by
  have hcv : (convert 27 27 (.slice (some ⟨w.heap.size, 0, none⟩) 1 1)).run Tryd.prog (w.alloc (.cells #[.int .u8 120] 5)) = .ok (.slice (some ⟨w.heap.size, 0, none⟩) 1 1) (w.alloc (.cells #[.int .u8 120] 5 (1, 2))) := Lib.run_convert_bytes_const (P := Tryd.prog) w 27 5 #[.int .u8 120] 1 1 Tryd.underlying27 Tryd.underlying5
  have ma := Mod.alloc [] w (.cells #[.int .u8 120] 5 (1, 2))
  have ha := heap_alloc_new w (.cells #[.int .u8 120] 5 (1, 2))
  obtain ⟨w1, hw1⟩ : ∃ x, w.alloc (.cells #[.int .u8 120] 5 (1, 2)) = x := ⟨_, rfl⟩
  rw [hw1] at ma ha hcv
  have mb := Mod.alloc [] w1 (.cells #[.slice (some ⟨w.heap.size, 0, none⟩) 1 1] 27)
  have hb := heap_alloc_new w1 (.cells #[.slice (some ⟨w.heap.size, 0, none⟩) 1 1] 27)
  obtain ⟨w2, hw2⟩ : ∃ x, w1.alloc (.cells #[.slice (some ⟨w.heap.size, 0, none⟩) 1 1] 27) = x := ⟨_, rfl⟩
  rw [hw2] at mb hb
  have hB : OwnB w2 (some ⟨w.heap.size, 0, none⟩) 1 [120] := OwnB.lit1 (mb.get ha List.not_mem_nil) 120 rfl (.inr (by decide))
  have M2 := Lib.hid (ma.trans' mb)
  have HP := Lib.hid (mput_any ⟨⟨4, 1, 0, 5, 0, 4⟩, none, 0, [], some ⟨w1.heap.size, 0, none⟩, 1, [([120], some ⟨w.heap.size, 0, none⟩, 1)], ([], none, 0)⟩ w2
    ⟨fun j h => absurd h (by simp), fun j h => by
      have : j = 0 := by simpa using h
      subst this
      exact ⟨w1.heap.size, 0, rfl, cell_of_block hb, hB.sees⟩, Sees.nil _ _⟩
    (by
      refine ⟨?_, Nat.zero_le _, by simp, by simp, fun b hb => ?_, ?_⟩
      · unfold WfH; dsimp only; omega
      · simp only [List.mem_singleton] at hb
        subst hb
        unfold WfB
        dsimp only
        simp
      · unfold WfB; dsimp only; simp)
    ⟨by simp, by simp, by simp, by simp, by simp⟩ (hf.mod0 M2.out) (hT.mod0 M2.out))
  unfold msgV mC at HP
  dsimp only at HP
  have hd : Mm.d ⟨⟨4, 1, 0, 5, 0, 4⟩, none, 0, [], some ⟨w1.heap.size, 0, none⟩, 1, [([120], some ⟨w.heap.size, 0, none⟩, 1)], ([], none, 0)⟩ = dW := rfl
  rw [hd] at HP
  have HF := Lib.hid hf
  have HT := Lib.hid hT
  clear hd hf hT ma ha mb hb hB
  go_enter Tryd.func11, Tryd.ntmps11
  go_wp2_with fail
  refine HP.out.mono ?_
  rintro e w3 ⟨a, n, c, rfl, hn, ho, m3, hd⟩
  rw [if_pos dW_may] at hn ho
  rw [dW_len] at hn
  subst hn
  have HCE : Hid (checkE dW = 0) := Lib.hid (if_pos dW_may)
  rw [HCE.out]
  have O3 := Lib.hid ho
  have M3 := Lib.hid (M2.out.trans' m3)
  obtain ⟨g, rfl, hg⟩ := Own.ne_none ho (by rw [dW_len]; omega)
  have hc12 : 12 ≤ c := by have := Own.le ho; rw [dW_len] at this; exact this
  have hcmax := (own_max ho).2
  have HD : Hid (w.heap.size ≤ g) := Lib.hid (Nat.le_trans M2.out.size (hd g (by simp [blk])))
  have hs4 : Sees w3 (some ⟨g, 4, none⟩) [4, 1, 0, 4, 5, 1, 1, 120] := by
    have h := (ho.sees).dropMap 4
    rw [msgB_drop, dW_in] at h
    simpa [Addr.add_lit] using h
  have cv := str_run (c := c - 4) hs4
  simp only [List.length_cons, List.length_nil] at cv
  have hc4 : ¬ c = 4 := by omega
  clear ho m3 hd hs4 HP hcv hw1 hw2
  go_wp2_with fail
  refine (mtake_any (some ⟨g, 0, none⟩) 12 c (msgB dW) w3 dW_len hc12 hcmax O3.out.sees (HF.out.mod0 M3.out) (HT.out.mod0 M3.out)).mono ?_
  rintro e w4 ⟨m, rfl, hmd, nm4, -, m4⟩
  rw [dW_take] at hmd ⊢
  dsimp only at hmd
  obtain ⟨⟨kind, bn, br, first, last, commit⟩, vo, vc, votes, so, sc, batches, pl, po, pc⟩ := m
  unfold Mm.d dW at hmd
  simp only [Md.mk.injEq, Hd.mk.injEq] at hmd
  obtain ⟨⟨rfl, rfl, rfl, rfl, rfl, rfl⟩, hv, hb, rfl⟩ := hmd
  have hv' : votes = [] := List.map_eq_nil_iff.1 hv
  subst hv'
  obtain ⟨⟨bx, bo, bc⟩, rfl, rfl⟩ : ∃ b : Bs, batches = [b] ∧ b.1 = [120] := by
    match batches, hb with
    | [b], h => exact ⟨b, rfl, by simpa [dB] using h⟩
    | [], h => simp [dB] at h
    | _ :: _ :: _, h => simp [dB] at h
  have NM4 := Lib.hid nm4
  have M4 := Lib.hid (M3.out.trans' m4)
  have O4 := Lib.hid (OwnB.mod0 O3.out m4)
  have hg4 : g < w4.heap.size := Nat.lt_of_lt_of_le hg m4.size
  have hg3 := hg
  clear nm4 m4 O3 M3 cv hv hb
  unfold msgV mC
  dsimp only
  obtain ⟨wz, hwz, hbz, mz⟩ : ∃ x, w4.alloc (.cells #[.int .u8 0, .int .u64 0, .int .i64 0, .int .u64 0, .int .u64 0, .int .u64 0, .slice none 0 0, .slice none 0 0, .slice none 0 0] 29) = x ∧ x.heap[w4.heap.size]? = some (.cells #[.int .u8 0, .int .u64 0, .int .i64 0, .int .u64 0, .int .u64 0, .int .u64 0, .slice none 0 0, .slice none 0 0, .slice none 0 0] 29 (0, 0)) ∧ Mod [] w4 x := ⟨_, rfl, heap_alloc_new w4 _, Mod.alloc _ _ _⟩
  have z0 := cell_of_block (i := 0) hbz
  have y0 := free_of_block (i := 0) hbz
  have z1 := cell_of_block (i := 1) hbz
  have y1 := free_of_block (i := 1) hbz
  have z2 := cell_of_block (i := 2) hbz
  have y2 := free_of_block (i := 2) hbz
  have z3 := cell_of_block (i := 3) hbz
  have y3 := free_of_block (i := 3) hbz
  have z4 := cell_of_block (i := 4) hbz
  have y4 := free_of_block (i := 4) hbz
  have z5 := cell_of_block (i := 5) hbz
  have y5 := free_of_block (i := 5) hbz
  have z6 := cell_of_block (i := 6) hbz
  have y6 := free_of_block (i := 6) hbz
  have z7 := cell_of_block (i := 7) hbz
  have y7 := free_of_block (i := 7) hbz
  have z8 := cell_of_block (i := 8) hbz
  have y8 := free_of_block (i := 8) hbz
  simp only [List.getElem?_toArray, List.getElem?_cons_succ, List.getElem?_cons_zero] at z0 z1 z2 z3 z4 z5 z6 z7 z8
  simp only [List.length_nil, List.length_cons, Nat.zero_add, Int.natCast_zero]
  go_upto_region 5 with (fail)
  obtain ⟨w5, hw5⟩ : ∃ x, (((((((((wz.setCell ⟨w4.heap.size, 0, none⟩ (.int .u8 4)).setCell ⟨w4.heap.size, 1, none⟩ (.int .u64 1)).setCell ⟨w4.heap.size, 2, none⟩ (.int .i64 0)).setCell ⟨w4.heap.size, 3, none⟩ (.int .u64 5)).setCell ⟨w4.heap.size, 4, none⟩ (.int .u64 0)).setCell ⟨w4.heap.size, 5, none⟩ (.int .u64 4)).setCell ⟨w4.heap.size, 6, none⟩ (.slice vo 0 vc)).setCell ⟨w4.heap.size, 7, none⟩ (.slice so 1 sc)).setCell ⟨w4.heap.size, 8, none⟩ (.slice po 0 pc)) = x := ⟨_, rfl⟩
  rw [hw5]
  have hbw5 : w5.heap[w4.heap.size]? = some (.cells #[.int .u8 4, .int .u64 1, .int .i64 0, .int .u64 5, .int .u64 0, .int .u64 4, .slice vo 0 vc, .slice so 1 sc, .slice po 0 pc] 29 (0, 0)) := by
    rw [← hw5]
    have h := (heap_setCell_same (i := 8) (heap_setCell_same (i := 7) (heap_setCell_same (i := 6) (heap_setCell_same (i := 5) (heap_setCell_same (i := 4) (heap_setCell_same (i := 3) (heap_setCell_same (i := 2) (heap_setCell_same (i := 1) (heap_setCell_same (i := 0) hbz (.int .u8 4)) (.int .u64 1)) (.int .i64 0)) (.int .u64 5)) (.int .u64 0)) (.int .u64 4)) (.slice vo 0 vc)) (.slice so 1 sc)) (.slice po 0 pc))
    simp only [List.setIfInBounds_toArray, List.set_cons_zero, List.set_cons_succ] at h
    exact h
  have mw5 : Mod [] w4 w5 := by
    rw [← hw5]
    exact mz.trans (T := [w4.heap.size]) (((((((((Mod.setCell _ _ _ (by simp)).trans' (Mod.setCell _ _ _ (by simp))).trans' (Mod.setCell _ _ _ (by simp))).trans' (Mod.setCell _ _ _ (by simp))).trans' (Mod.setCell _ _ _ (by simp))).trans' (Mod.setCell _ _ _ (by simp))).trans' (Mod.setCell _ _ _ (by simp))).trans' (Mod.setCell _ _ _ (by simp))).trans' (Mod.setCell _ _ _ (by simp))) (by simp)
  clear z0 z1 z2 z3 z4 z5 z6 z7 z8 y0 y1 y2 y3 y4 y5 y6 y7 y8 hbz mz hwz hw5
  have NM5 := Lib.hid (NM4.out.mod0 mw5)
  have O5 := Lib.hid (OwnB.mod0 O4.out mw5)
  have M5 := Lib.hid (M4.out.trans' mw5)
  have HB5 := Lib.hid hbw5
  have hg5 : g < w5.heap.size := Nat.lt_of_lt_of_le hg4 mw5.size
  clear NM4 O4 M4 mw5 hbw5
  obtain ⟨g', e0, c7, f7⟩ := Own.cell O5.out (j := 7) (u := u8v 4) (by
    rw [List.getElem?_map, List.getElem?_eq_getElem (by rw [dW_len]; omega), dW_at]
    rfl)
  cases e0
  have c7' : w5.cell? ⟨g, 7, none⟩ = some (.int .u8 4) := c7
  clear c7
  go_upto_region 6 with (fail)
  have hsset : OwnB (w5.setCell ⟨g, 7, none⟩ (.int .u8 5)) (some ⟨g, 0, none⟩) c ((msgB dW).set 7 5) := by
    have h := Own.set (j := 7) O5.out (u8v 5)
    unfold OwnB
    rw [List.length_set, List.map_set]
    exact h
  have m6 : Mod [g] w5 (w5.setCell ⟨g, 7, none⟩ (.int .u8 5)) := Mod.setCell _ _ _ (by simp)
  obtain ⟨w6, hw6⟩ : ∃ x, w5.setCell ⟨g, 7, none⟩ (.int .u8 5) = x := ⟨_, rfl⟩
  rw [hw6] at hsset m6 ⊢
  have O6 := Lib.hid hsset
  have NM6 := Lib.hid (NM5.out.off m6 (by simp; exact hg3))
  have M6 := Lib.hid (M5.out.trans m6 (by have := HD.out; simp; omega))
  have HB6 := Lib.hid (m6.get HB5.out (by simp; omega))
  clear hsset m6 hw6 c7' f7 O5 NM5 M5 HB5
  go_wp2_with fail
  refine (mtake_any (some ⟨g, 0, none⟩) 12 c ((msgB dW).set 7 5) w6 (by rw [List.length_set, dW_len]) hc12 hcmax O6.out.sees (HF.out.mod0 M6.out) (HT.out.mod0 M6.out)).mono ?_
  rintro e w7 ⟨m2, rfl, hmd, -, -, m7⟩
  rw [dW_flip] at hmd ⊢
  dsimp only at hmd
  obtain ⟨⟨kind, bn, br, first, last, commit⟩, vo2, vc2, votes2, so2, sc2, batches2, pl2, po2, pc2⟩ := m2
  unfold Mm.d mz at hmd
  simp only [Md.mk.injEq, Hd.mk.injEq] at hmd
  obtain ⟨⟨rfl, rfl, rfl, rfl, rfl, rfl⟩, -, -, -⟩ := hmd
  have NM7 := Lib.hid (NM6.out.mod0 m7)
  have M7 := Lib.hid (M6.out.trans' m7)
  have HB7 := Lib.hid (m7.get HB6.out List.not_mem_nil)
  clear m7 O6 NM6 M6 HB6
  unfold msgV mC
  dsimp only
  obtain ⟨vl2, hvl2⟩ : ∃ x, votes2.length = x := ⟨_, rfl⟩
  obtain ⟨bl2, hbl2⟩ : ∃ x, batches2.length = x := ⟨_, rfl⟩
  obtain ⟨sl2, hsl2⟩ : ∃ x, pl2.length = x := ⟨_, rfl⟩
  rw [hvl2, hbl2, hsl2]
  clear hvl2 hbl2 hsl2
  obtain ⟨wz, hwz, hbz, mz⟩ : ∃ x, w7.alloc (.cells #[.int .u8 0, .int .u64 0, .int .i64 0, .int .u64 0, .int .u64 0, .int .u64 0, .slice none 0 0, .slice none 0 0, .slice none 0 0] 29) = x ∧ x.heap[w7.heap.size]? = some (.cells #[.int .u8 0, .int .u64 0, .int .i64 0, .int .u64 0, .int .u64 0, .int .u64 0, .slice none 0 0, .slice none 0 0, .slice none 0 0] 29 (0, 0)) ∧ Mod [] w7 x := ⟨_, rfl, heap_alloc_new w7 _, Mod.alloc _ _ _⟩
  have z0 := cell_of_block (i := 0) hbz
  have y0 := free_of_block (i := 0) hbz
  have z1 := cell_of_block (i := 1) hbz
  have y1 := free_of_block (i := 1) hbz
  have z2 := cell_of_block (i := 2) hbz
  have y2 := free_of_block (i := 2) hbz
  have z3 := cell_of_block (i := 3) hbz
  have y3 := free_of_block (i := 3) hbz
  have z4 := cell_of_block (i := 4) hbz
  have y4 := free_of_block (i := 4) hbz
  have z5 := cell_of_block (i := 5) hbz
  have y5 := free_of_block (i := 5) hbz
  have z6 := cell_of_block (i := 6) hbz
  have y6 := free_of_block (i := 6) hbz
  have z7 := cell_of_block (i := 7) hbz
  have y7 := free_of_block (i := 7) hbz
  have z8 := cell_of_block (i := 8) hbz
  have y8 := free_of_block (i := 8) hbz
  simp only [List.getElem?_toArray, List.getElem?_cons_succ, List.getElem?_cons_zero] at z0 z1 z2 z3 z4 z5 z6 z7 z8
  go_upto_region 7 with (fail)
  obtain ⟨w8, hw8⟩ : ∃ x, (((((((((wz.setCell ⟨w7.heap.size, 0, none⟩ (.int .u8 0)).setCell ⟨w7.heap.size, 1, none⟩ (.int .u64 0)).setCell ⟨w7.heap.size, 2, none⟩ (.int .i64 0)).setCell ⟨w7.heap.size, 3, none⟩ (.int .u64 0)).setCell ⟨w7.heap.size, 4, none⟩ (.int .u64 0)).setCell ⟨w7.heap.size, 5, none⟩ (.int .u64 0)).setCell ⟨w7.heap.size, 6, none⟩ (.slice vo2 vl2 vc2)).setCell ⟨w7.heap.size, 7, none⟩ (.slice so2 bl2 sc2)).setCell ⟨w7.heap.size, 8, none⟩ (.slice po2 sl2 pc2)) = x := ⟨_, rfl⟩
  rw [hw8]
  have hbw8 : w8.heap[w7.heap.size]? = some (.cells #[.int .u8 0, .int .u64 0, .int .i64 0, .int .u64 0, .int .u64 0, .int .u64 0, .slice vo2 vl2 vc2, .slice so2 bl2 sc2, .slice po2 sl2 pc2] 29 (0, 0)) := by
    rw [← hw8]
    have h := (heap_setCell_same (i := 8) (heap_setCell_same (i := 7) (heap_setCell_same (i := 6) (heap_setCell_same (i := 5) (heap_setCell_same (i := 4) (heap_setCell_same (i := 3) (heap_setCell_same (i := 2) (heap_setCell_same (i := 1) (heap_setCell_same (i := 0) hbz (.int .u8 0)) (.int .u64 0)) (.int .i64 0)) (.int .u64 0)) (.int .u64 0)) (.int .u64 0)) (.slice vo2 vl2 vc2)) (.slice so2 bl2 sc2)) (.slice po2 sl2 pc2))
    simp only [List.setIfInBounds_toArray, List.set_cons_zero, List.set_cons_succ] at h
    exact h
  have mw8 : Mod [] w7 w8 := by
    rw [← hw8]
    exact mz.trans (T := [w7.heap.size]) (((((((((Mod.setCell _ _ _ (by simp)).trans' (Mod.setCell _ _ _ (by simp))).trans' (Mod.setCell _ _ _ (by simp))).trans' (Mod.setCell _ _ _ (by simp))).trans' (Mod.setCell _ _ _ (by simp))).trans' (Mod.setCell _ _ _ (by simp))).trans' (Mod.setCell _ _ _ (by simp))).trans' (Mod.setCell _ _ _ (by simp))).trans' (Mod.setCell _ _ _ (by simp))) (by simp)
  clear z0 z1 z2 z3 z4 z5 z6 z7 z8 y0 y1 y2 y3 y4 y5 y6 y7 y8 hbz mz hwz hw8
  have NM8 := Lib.hid (NM7.out.mod0 mw8)
  have M8 := Lib.hid (M7.out.trans' mw8)
  have HB8 := Lib.hid (mw8.get HB7.out List.not_mem_nil)
  clear NM7 M7 HB7 mw8 hbw8
  obtain ⟨b, off, rfl, p0, px⟩ := NM8.out.batches.sees 0 (by simp)
  have p0' : w8.cell? ⟨b, off, none⟩ = some (.slice bo 1 bc) := p0
  have cv := str_run (c := bc) px
  have cv' : (convert 27 9 (.slice bo 1 bc)).run Tryd.prog w8 = .ok (strV [120]) w8 := cv
  clear p0 px cv
  have d0 := cell_of_block (i := 0) HB8.out
  have d1 := cell_of_block (i := 1) HB8.out
  have d2 := cell_of_block (i := 2) HB8.out
  have d3 := cell_of_block (i := 3) HB8.out
  have d4 := cell_of_block (i := 4) HB8.out
  have d5 := cell_of_block (i := 5) HB8.out
  have d6 := cell_of_block (i := 6) HB8.out
  have d7 := cell_of_block (i := 7) HB8.out
  have d8 := cell_of_block (i := 8) HB8.out
  simp only [List.getElem?_toArray, List.getElem?_cons_succ, List.getElem?_cons_zero] at d0 d1 d2 d3 d4 d5 d6 d7 d8
  have HC0 := Lib.hid (check_any (m6 0) w8 (m6_sees 0 w8) (m6_wf 0 (by omega)) (HF.out.mod0 M8.out))
  have e0 : checkE (m6 0).d = 1 := d6_no
  rw [e0] at HC0
  clear e0
  go_wp2_with fail
  refine HC0.out.mono ?_
  rintro e w9 ⟨rfl, m9⟩
  have M9 := Lib.hid (M8.out.trans' m9)
  have HC1 := Lib.hid (check_any (m6 1) w9 (m6_sees 1 w9) (m6_wf 1 (by omega)) (HF.out.mod0 M9.out))
  have e1 : checkE (m6 1).d = 0 := d6_yes
  rw [e1] at HC1
  clear e1 m9 HC0
  go_wp2_with fail
  refine HC1.out.mono ?_
  rintro e w10 ⟨rfl, m10⟩
  have M10 := Lib.hid (M9.out.trans' m10)
  clear m10 HC1
  go_wp2_with fail
  go_ret
  exact ⟨rfl, M10.out⟩
end Go.Proofs.YtekdnljincbghaaDoor
