/- The walk of quoratelaw17.MsgTakes. -/
import Derived.Test.YtekdnljincbghaaDoorZ7
import Derived.Test.YtekdnljincbghaaDoorHMsgT3
namespace Go.Proofs.YtekdnljincbghaaDoor
open Go Go.RowKit Go.Lib

set_option maxRecDepth 100000 in
set_option maxHeartbeats 16000000 in
theorem msgTakes_any (ao : Option Addr) (len cap : Nat) (l : List UInt8) (w : World) (hl : l.length = len) (hlc : len ≤ cap) (hc : cap ≤ 9223372036854775807) (hs : Sees w ao l) (hf : Flds w) (hT : TableAt w T0) :
    Calls Tryd.prog 4 #[.slice ao len cap] w fun e w' => e = .returned (.bool true) ∧ Mod [] w w' := by
  subst hl
  have WK : Hid (∀ w', Mod [] w w' → Calls Tryd.prog 11 #[] w' fun e w'' => e = .returned (.bool true) ∧ Mod [] w' w'') := Lib.hid (fun w' m => wakes17_any w' (hf.mod0 m) (hT.mod0 m))
  have HS := Lib.hid hs
  have HF := Lib.hid hf
  have HT := Lib.hid hT
  clear hs hf hT
  by_cases h5 : 5000 < l.length
  case pos =>
    have D : decide ((5000 : Int) < (l.length : Int)) = true := decide_eq_true (by omega)
    have M0 := Lib.hid (Mod.refl [] w)
    go_enter Tryd.func4, Tryd.ntmps4
    have HW := Lib.hid (WK.out w M0.out)
    go_wp2_with fail
    refine HW.out.mono ?_
    rintro e wk ⟨rfl, mk⟩
    have MK := Lib.hid (M0.out.trans' mk)
    clear mk HW
    go_wp2_with fail
    go_ret
    exact ⟨rfl, MK.out⟩
  have D : decide ((5000 : Int) < (l.length : Int)) = false := decide_eq_false (by omega)
  have HEQ : Hid (takeQ l = takeR l) := Lib.hid (takeQ_eq l (by omega))
  have me := Mod.alloc [] w (.cells #[] 5)
  have he := ob_empty w
  obtain ⟨w1, hw1⟩ : ∃ x, w.alloc (.cells #[] 5) = x := ⟨_, rfl⟩
  have hz1 : w1.heap.size = w.heap.size + 1 := by rw [← hw1]; simp
  rw [hw1] at me he
  have HE := Lib.hid he
  have M1 := Lib.hid me
  have S1 := Lib.hid (HS.out.mod0 me)
  clear me he
  go_enter Tryd.func4, Tryd.ntmps4
  go_wp2_with (first | (at_builtin; refine wpl_app8 (dst := some 14) _ _ (some ⟨w.heap.size, 0, none⟩) 0 0 [] rfl rfl HE.out ao l.length cap l rfl rfl S1.out (by omega) ?_) | fail)
  intro a2 c2 w2 o2 m2 s2
  rw [List.nil_append] at o2
  have M2 := Lib.hid (M1.out.trans m2 (fun i hi hl => by simp [blk] at hi; omega))
  have O2 := Lib.hid o2
  have N2 : Hid (l.length ≤ c2 ∧ c2 ≤ 9223372036854775807) := Lib.hid (own_max o2)
  have e0 : 0 + l.length = l.length := Nat.zero_add _
  rw [e0]
  have HC := Lib.hid (mtake_any a2 l.length c2 l w2 rfl N2.out.1 N2.out.2 o2.sees (HF.out.mod0 M2.out) (HT.out.mod0 M2.out))
  clear o2 m2 s2 M1 S1 HE hw1 e0
  go_wp2_with fail
  refine HC.out.mono ?_
  rintro e w3 ⟨n1, rfl, hd1, nm1, wf1, m3⟩
  have M3 := Lib.hid (M2.out.trans' m3)
  have O3 := Lib.hid (O2.out.mod0 m3)
  have HD1 := Lib.hid hd1
  have NM3 := Lib.hid nm1
  have WF1 := Lib.hid wf1
  obtain ⟨k1, bn1, br1, f1, l1, c1, vo1, vl1, vc1, so1, bl1, sc1, po1, sl1, pc1, hv1, hr1⟩ := mshape n1
  rw [hv1]
  have HV1 := Lib.hid hv1
  have HR1 := Lib.hid hr1
  clear hd1 nm1 wf1 m3 hv1 hr1 HC O2 M2
  obtain ⟨wz, hwz, hbz, hmz⟩ : ∃ x, w3.alloc (.cells #[.int .u8 0, .int .u64 0, .int .i64 0, .int .u64 0, .int .u64 0, .int .u64 0, .slice none 0 0, .slice none 0 0, .slice none 0 0] 29) = x ∧ x.heap[w3.heap.size]? = some (.cells #[.int .u8 0, .int .u64 0, .int .i64 0, .int .u64 0, .int .u64 0, .int .u64 0, .slice none 0 0, .slice none 0 0, .slice none 0 0] 29 (0, 0)) ∧ Mod [] w3 x := ⟨_, rfl, heap_alloc_new w3 _, Mod.alloc _ _ _⟩
  have z0 := cell_of_block (i := 0) hbz
  have y0 := free_of_block (i := 0) hbz
  have z1 := cell_of_block (i := 1) hbz
  have y1 := free_of_block (i := 1) hbz
  have z2 := cell_of_block (i := 2) hbz
  have y2 := free_of_block (i := 2) hbz
  have z3 := cell_of_block (i := 3) hbz
  have y3 := free_of_block (i := 3) hbz
  have z4 := cell_of_block (i := 4) hbz
  have y4 := free_of_block (i := 4) hbz
  have z5 := cell_of_block (i := 5) hbz
  have y5 := free_of_block (i := 5) hbz
  have z6 := cell_of_block (i := 6) hbz
  have y6 := free_of_block (i := 6) hbz
  have z7 := cell_of_block (i := 7) hbz
  have y7 := free_of_block (i := 7) hbz
  have z8 := cell_of_block (i := 8) hbz
  have y8 := free_of_block (i := 8) hbz
  simp only [List.getElem?_toArray, List.getElem?_cons_succ, List.getElem?_cons_zero] at z0 z1 z2 z3 z4 z5 z6 z7 z8
  go_upto_region 5 with (fail)
  obtain ⟨w4, hw4⟩ : ∃ x, (((((((((wz.setCell ⟨w3.heap.size, 0, none⟩ (.int .u8 k1)).setCell ⟨w3.heap.size, 1, none⟩ (.int .u64 bn1)).setCell ⟨w3.heap.size, 2, none⟩ (.int .i64 br1)).setCell ⟨w3.heap.size, 3, none⟩ (.int .u64 f1)).setCell ⟨w3.heap.size, 4, none⟩ (.int .u64 l1)).setCell ⟨w3.heap.size, 5, none⟩ (.int .u64 c1)).setCell ⟨w3.heap.size, 6, none⟩ (.slice vo1 vl1 vc1)).setCell ⟨w3.heap.size, 7, none⟩ (.slice so1 bl1 sc1)).setCell ⟨w3.heap.size, 8, none⟩ (.slice po1 sl1 pc1)) = x := ⟨_, rfl⟩
  rw [hw4]
  have hbw4 : w4.heap[w3.heap.size]? = some (.cells #[.int .u8 k1, .int .u64 bn1, .int .i64 br1, .int .u64 f1, .int .u64 l1, .int .u64 c1, .slice vo1 vl1 vc1, .slice so1 bl1 sc1, .slice po1 sl1 pc1] 29 (0, 0)) := by
    rw [← hw4]
    have h := (heap_setCell_same (i := 8) (heap_setCell_same (i := 7) (heap_setCell_same (i := 6) (heap_setCell_same (i := 5) (heap_setCell_same (i := 4) (heap_setCell_same (i := 3) (heap_setCell_same (i := 2) (heap_setCell_same (i := 1) (heap_setCell_same (i := 0) hbz (.int .u8 k1)) (.int .u64 bn1)) (.int .i64 br1)) (.int .u64 f1)) (.int .u64 l1)) (.int .u64 c1)) (.slice vo1 vl1 vc1)) (.slice so1 bl1 sc1)) (.slice po1 sl1 pc1))
    simp only [List.setIfInBounds_toArray, List.set_cons_zero, List.set_cons_succ] at h
    exact h
  have mw4 : Mod [] w3 w4 := by
    rw [← hw4]
    exact hmz.trans (T := [w3.heap.size]) (((((((((Mod.setCell _ _ _ (by simp)).trans' (Mod.setCell _ _ _ (by simp))).trans' (Mod.setCell _ _ _ (by simp))).trans' (Mod.setCell _ _ _ (by simp))).trans' (Mod.setCell _ _ _ (by simp))).trans' (Mod.setCell _ _ _ (by simp))).trans' (Mod.setCell _ _ _ (by simp))).trans' (Mod.setCell _ _ _ (by simp))).trans' (Mod.setCell _ _ _ (by simp))) (by simp)
  clear z0 z1 z2 z3 z4 z5 z6 z7 z8 y0 y1 y2 y3 y4 y5 y6 y7 y8 hbz hmz hwz hw4
  have M4 := Lib.hid (M3.out.trans' mw4)
  have O4 := Lib.hid (O3.out.mod0 mw4)
  have NM4 := Lib.hid (NM3.out.mod0 mw4)
  have LA4 := Lib.hid (box9 hbw4)
  clear mw4 hbw4 M3 O3 NM3
  have HC := Lib.hid (rtake_any ao l.length cap l w4 rfl hlc hc (HS.out.mod0 M4.out) (by omega))
  go_wp2_with fail
  refine HC.out.mono ?_
  rintro e w5 ⟨n2, rfl, hd2, nm2, wf2, m5⟩
  rw [HEQ.out] at hd2 ⊢
  have M5 := Lib.hid (M4.out.trans' m5)
  have O5 := Lib.hid (O4.out.mod0 m5)
  have NM5 := Lib.hid (NM4.out.mod0 m5)
  have LA5 : Hid (∀ w', Mod [] w5 w' → _) := Lib.hid (fun w' h => LA4.out w' (m5.trans' h))
  have HD2 : Hid (n1.d = n2.d) := Lib.hid (by rw [HD1.out, hd2])
  have NN5 := Lib.hid nm2
  have WF2 := Lib.hid wf2
  obtain ⟨k2, bn2, br2, f2, l2, c2, vo2, vl2, vc2, so2, bl2, sc2, po2, sl2, pc2, hv2, hr2⟩ := mshape n2
  rw [hr2]
  have HR2 := Lib.hid hr2
  obtain ⟨er, her⟩ : ∃ x, (takeR l).1 = x := ⟨_, rfl⟩
  rw [her]
  clear hd2 nm2 wf2 m5 hv2 hr2 HC O4 M4 LA4 NM4 her HD1
  obtain ⟨wz', hwz, hbz, hmz⟩ : ∃ x, w5.alloc (.cells #[.int .i64 0, .int .u64 0, .int .i64 0, .int .u64 0, .int .u64 0, .int .u64 0, .slice none 0 0, .slice none 0 0, .slice none 0 0] 39) = x ∧ x.heap[w5.heap.size]? = some (.cells #[.int .i64 0, .int .u64 0, .int .i64 0, .int .u64 0, .int .u64 0, .int .u64 0, .slice none 0 0, .slice none 0 0, .slice none 0 0] 39 (0, 0)) ∧ Mod [] w5 x := ⟨_, rfl, heap_alloc_new w5 _, Mod.alloc _ _ _⟩
  have z0 := cell_of_block (i := 0) hbz
  have y0 := free_of_block (i := 0) hbz
  have z1 := cell_of_block (i := 1) hbz
  have y1 := free_of_block (i := 1) hbz
  have z2 := cell_of_block (i := 2) hbz
  have y2 := free_of_block (i := 2) hbz
  have z3 := cell_of_block (i := 3) hbz
  have y3 := free_of_block (i := 3) hbz
  have z4 := cell_of_block (i := 4) hbz
  have y4 := free_of_block (i := 4) hbz
  have z5 := cell_of_block (i := 5) hbz
  have y5 := free_of_block (i := 5) hbz
  have z6 := cell_of_block (i := 6) hbz
  have y6 := free_of_block (i := 6) hbz
  have z7 := cell_of_block (i := 7) hbz
  have y7 := free_of_block (i := 7) hbz
  have z8 := cell_of_block (i := 8) hbz
  have y8 := free_of_block (i := 8) hbz
  simp only [List.getElem?_toArray, List.getElem?_cons_succ, List.getElem?_cons_zero] at z0 z1 z2 z3 z4 z5 z6 z7 z8
  go_upto_region 6 with (fail)
  obtain ⟨w6, hw6⟩ : ∃ x, (((((((((wz'.setCell ⟨w5.heap.size, 0, none⟩ (.int .i64 k2)).setCell ⟨w5.heap.size, 1, none⟩ (.int .u64 bn2)).setCell ⟨w5.heap.size, 2, none⟩ (.int .i64 br2)).setCell ⟨w5.heap.size, 3, none⟩ (.int .u64 f2)).setCell ⟨w5.heap.size, 4, none⟩ (.int .u64 l2)).setCell ⟨w5.heap.size, 5, none⟩ (.int .u64 c2)).setCell ⟨w5.heap.size, 6, none⟩ (.slice vo2 vl2 vc2)).setCell ⟨w5.heap.size, 7, none⟩ (.slice so2 bl2 sc2)).setCell ⟨w5.heap.size, 8, none⟩ (.slice po2 sl2 pc2)) = x := ⟨_, rfl⟩
  rw [hw6]
  have hbw6 : w6.heap[w5.heap.size]? = some (.cells #[.int .i64 k2, .int .u64 bn2, .int .i64 br2, .int .u64 f2, .int .u64 l2, .int .u64 c2, .slice vo2 vl2 vc2, .slice so2 bl2 sc2, .slice po2 sl2 pc2] 39 (0, 0)) := by
    rw [← hw6]
    have h := (heap_setCell_same (i := 8) (heap_setCell_same (i := 7) (heap_setCell_same (i := 6) (heap_setCell_same (i := 5) (heap_setCell_same (i := 4) (heap_setCell_same (i := 3) (heap_setCell_same (i := 2) (heap_setCell_same (i := 1) (heap_setCell_same (i := 0) hbz (.int .i64 k2)) (.int .u64 bn2)) (.int .i64 br2)) (.int .u64 f2)) (.int .u64 l2)) (.int .u64 c2)) (.slice vo2 vl2 vc2)) (.slice so2 bl2 sc2)) (.slice po2 sl2 pc2))
    simp only [List.setIfInBounds_toArray, List.set_cons_zero, List.set_cons_succ] at h
    exact h
  have mw6 : Mod [] w5 w6 := by
    rw [← hw6]
    exact hmz.trans (T := [w5.heap.size]) (((((((((Mod.setCell _ _ _ (by simp)).trans' (Mod.setCell _ _ _ (by simp))).trans' (Mod.setCell _ _ _ (by simp))).trans' (Mod.setCell _ _ _ (by simp))).trans' (Mod.setCell _ _ _ (by simp))).trans' (Mod.setCell _ _ _ (by simp))).trans' (Mod.setCell _ _ _ (by simp))).trans' (Mod.setCell _ _ _ (by simp))).trans' (Mod.setCell _ _ _ (by simp))) (by simp)
  clear z0 z1 z2 z3 z4 z5 z6 z7 z8 y0 y1 y2 y3 y4 y5 y6 y7 y8 hbz hmz hwz hw6
  have M6 := Lib.hid (M5.out.trans' mw6)
  have O6 := Lib.hid (O5.out.mod0 mw6)
  have NM6 := Lib.hid (NM5.out.mod0 mw6)
  have NN6 := Lib.hid (NN5.out.mod0 mw6)
  have LA6 : Hid (∀ w', Mod [] w6 w' → _) := Lib.hid (fun w' h => LA5.out w' (mw6.trans' h))
  have LB6 := Lib.hid (box9 hbw6)
  clear mw6 hbw6 M5 O5 NM5 NN5 LA5
  have OFN : Hid (∀ w', Calls Tryd.prog 16 #[msgV n1] w' fun e w'' => e = .returned (refV n1) ∧ Mod [] w' w'') := Lib.hid (fun w' => of17_any n1 w' WF1.out.h.1)
  have RSN : Hid (∀ w', Mod [] w6 w' → Calls Tryd.prog 15 #[refV n1, refV n2] w' fun e w'' => e = .returned (.bool true) ∧ Mod [] w' w'') := Lib.hid (fun w' m => by
    have h := rsame_any n1 n2 w' (NM6.out.sees.mod0 m) (NN6.out.sees.mod0 m) ⟨WF1.out.vlen, WF1.out.blen⟩ ⟨WF2.out.vlen, WF2.out.blen⟩
    rwa [decide_eq_true HD2.out] at h)
  rw [HV1.out, HR1.out] at OFN
  rw [HR1.out, HR2.out] at RSN
  have DE : (er == er) = true := by simp
  have DQ : Hid (decide (l = l) = true) := Lib.hid (decide_eq_true rfl)
  refine rest_start [] 20 #[false, false, false, false, false, false, false, false, false, false, false, false, false, false, false, false, false, false, false, false] rfl (by kernel_rfl) (by kernel_rfl) ?_
  intro w7 m7
  have N7 := Lib.hid m7
  have M7 := Lib.hid (M6.out.trans' m7)
  have LA7 : Hid (∀ w', Mod [] w7 w' → _) := Lib.hid (fun w' h => LA6.out w' (m7.trans' h))
  have LB7 : Hid (∀ w', Mod [] w7 w' → _) := Lib.hid (fun w' h => LB6.out w' (m7.trans' h))
  have SX := Lib.hid (O6.out.sees.mod0 m7)
  have SY := Lib.hid (HS.out.mod0 (M6.out.trans' m7))
  clear m7 M6 LA6 LB6 O6
  refine rest_got (i := 0) (v := ?v1) rfl (by kernel_rfl) (by kernel_rfl) (by kernel_rfl) (fun _ _ _ h => h) (by rfl) ?y1 ?r1
  case y1 => (intro w9q hSwq; clear hSwq; go_simp; with_reducible rfl)
  try simp only [Act.put, List.setIfInBounds_toArray, List.set_cons_zero, List.set_cons_succ]
  refine rest_got (i := 1) (v := ?v2) rfl (by kernel_rfl) (by kernel_rfl) (by kernel_rfl) (fun _ _ _ h => h) (by rfl) ?y2 ?r2
  case y2 => (intro w9q hSwq; clear hSwq; go_simp; with_reducible rfl)
  try simp only [Act.put, List.setIfInBounds_toArray, List.set_cons_zero, List.set_cons_succ]
  refine rest_got (i := 2) (v := ?v3) rfl (by kernel_rfl) (by kernel_rfl) (by kernel_rfl) (fun _ _ _ h => h) (by rfl) ?y3 ?r3
  case y3 => (intro w9q hSwq; clear hSwq; go_simp; with_reducible rfl)
  try simp only [Act.put, List.setIfInBounds_toArray, List.set_cons_zero, List.set_cons_succ]
  refine rest_got (i := 3) (v := ?v4) rfl (by kernel_rfl) (by kernel_rfl) (by kernel_rfl) (fun _ _ _ h => h) (by rfl) ?y4 ?r4
  case y4 => (intro w9q hSwq; clear hSwq; go_simp; with_reducible rfl)
  try simp only [Act.put, List.setIfInBounds_toArray, List.set_cons_zero, List.set_cons_succ]
  refine rest_got (i := 4) (v := ?v5) rfl (by kernel_rfl) (by kernel_rfl) (by kernel_rfl) (fun _ _ _ h => h) (by rfl) ?y5 ?r5
  case y5 => ((intro w9' hm9'; obtain ⟨hc0', hc1', hc2', hc3', hc4', hc5', hc6', hc7', hc8'⟩ := LA7.out w9' hm9'; clear hm9'; go_simp; with_reducible rfl))
  try simp only [Act.put, List.setIfInBounds_toArray, List.set_cons_zero, List.set_cons_succ]
  refine rest_got (i := 6) (v := ?v6) rfl (by kernel_rfl) (by kernel_rfl) (by kernel_rfl) (fun _ _ _ h => h) (by rfl) ?y6 ?r6
  case y6 => ((intro w9' hm9'; obtain ⟨hc0', hc1', hc2', hc3', hc4', hc5', hc6', hc7', hc8'⟩ := LB7.out w9' hm9'; clear hm9'; go_simp; with_reducible rfl))
  try simp only [Act.put, List.setIfInBounds_toArray, List.set_cons_zero, List.set_cons_succ]
  refine rest_one (i := 5) (by kernel_rfl) rfl (by rfl) ?_
  have HX := Lib.hid (OFN.out w7)
  go_wp2_with fail
  refine HX.out.mono ?_
  rintro e w8 ⟨rfl, m8⟩
  go_wp2_with fail
  refine back_to (K1 := []) m8 (by simp) ?_
  have M8 := Lib.hid (M7.out.trans' m8)
  have N8 := Lib.hid (N7.out.trans' m8)
  have SX8 := Lib.hid (SX.out.mod0 m8)
  have SY8 := Lib.hid (SY.out.mod0 m8)
  clear m8 HX M7 N7 SX SY LA7 LB7
  
  refine rest_one (i := 7) (by kernel_rfl) rfl (by rfl) ?_
  have HX := Lib.hid (RSN.out w8 N8.out)
  go_wp2_with fail
  refine HX.out.mono ?_
  rintro e w9 ⟨rfl, m9⟩
  go_wp2_with fail
  refine back_to (K1 := []) m9 (by simp) ?_
  have M9 := Lib.hid (M8.out.trans' m9)
  have SX9 := Lib.hid (SX8.out.mod0 m9)
  have SY9 := Lib.hid (SY8.out.mod0 m9)
  clear m9 HX M8 N8 SX8 SY8
  refine rest_got (i := 8) (v := ?v7) rfl (by kernel_rfl) (by kernel_rfl) (by kernel_rfl) (fun _ _ _ h => h) (by rfl) ?y7 ?r7
  case y7 => (intro w9q hSwq; clear hSwq; go_simp; with_reducible rfl)
  try simp only [Act.put, List.setIfInBounds_toArray, List.set_cons_zero, List.set_cons_succ]
  refine rest_got (i := 9) (v := ?v8) rfl (by kernel_rfl) (by kernel_rfl) (by kernel_rfl) (fun _ _ _ h => h) (by rfl) ?y8 ?r8
  case y8 => (intro w9q hSwq; clear hSwq; go_simp; with_reducible rfl)
  try simp only [Act.put, List.setIfInBounds_toArray, List.set_cons_zero, List.set_cons_succ]
  refine rest_got (i := 10) (v := ?v9) rfl (by kernel_rfl) (by kernel_rfl) (by kernel_rfl) (fun _ _ _ h => h) (by rfl) ?y9 ?r9
  case y9 => (intro w9q hSwq; clear hSwq; go_simp; with_reducible rfl)
  try simp only [Act.put, List.setIfInBounds_toArray, List.set_cons_zero, List.set_cons_succ]
  refine rest_got (i := 11) (v := ?v10) rfl (by kernel_rfl) (by kernel_rfl) (by kernel_rfl) (fun _ _ _ h => h) (by rfl) ?y10 ?r10
  case y10 => ((intro w9' hm9'; refine Eq.trans (reads_str _ _ _ _ 5 Tryd.underlying27 Tryd.underlying5 Tryd.underlying9 _ _ _ _ rfl (by first | rfl | simp) SX9.out (by first | (intro k _ hk; exact (List.not_mem_nil hk)) | simp) w9' hm9') ?_; with_reducible rfl))
  try simp only [Act.put, List.setIfInBounds_toArray, List.set_cons_zero, List.set_cons_succ]
  refine rest_got (i := 12) (v := ?v11) rfl (by kernel_rfl) (by kernel_rfl) (by kernel_rfl) (fun _ _ _ h => h) (by rfl) ?y11 ?r11
  case y11 => (intro w9q hSwq; clear hSwq; go_simp; with_reducible rfl)
  try simp only [Act.put, List.setIfInBounds_toArray, List.set_cons_zero, List.set_cons_succ]
  refine rest_got (i := 13) (v := ?v12) rfl (by kernel_rfl) (by kernel_rfl) (by kernel_rfl) (fun _ _ _ h => h) (by rfl) ?y12 ?r12
  case y12 => ((intro w9' hm9'; refine Eq.trans (reads_str _ _ _ _ 5 Tryd.underlying27 Tryd.underlying5 Tryd.underlying9 _ _ _ _ rfl (by first | rfl | simp) SY9.out (by first | (intro k _ hk; exact (List.not_mem_nil hk)) | simp) w9' hm9') ?_; with_reducible rfl))
  try simp only [Act.put, List.setIfInBounds_toArray, List.set_cons_zero, List.set_cons_succ]
  refine rest_got (i := 14) (v := ?v13) rfl (by kernel_rfl) (by kernel_rfl) (by kernel_rfl) (fun _ _ _ h => h) (by rfl) ?y13 ?r13
  case y13 => (intro w9q hSwq; clear hSwq; go_simp; with_reducible rfl)
  try simp only [Act.put, List.setIfInBounds_toArray, List.set_cons_zero, List.set_cons_succ]
  refine rest_got (i := 15) (v := ?v14) rfl (by kernel_rfl) (by kernel_rfl) (by kernel_rfl) (fun _ _ _ h => h) (by rfl) ?y14 ?r14
  case y14 => (intro w9q hSwq; clear hSwq; go_simp; with_reducible rfl)
  try simp only [Act.put, List.setIfInBounds_toArray, List.set_cons_zero, List.set_cons_succ]
  refine rest_got (i := 16) (v := ?v15) rfl (by kernel_rfl) (by kernel_rfl) (by kernel_rfl) (fun _ _ _ h => h) (by rfl) ?y15 ?r15
  case y15 => (intro w9q hSwq; clear hSwq; go_simp; with_reducible rfl)
  try simp only [Act.put, List.setIfInBounds_toArray, List.set_cons_zero, List.set_cons_succ]
  refine rest_one (i := 17) (by kernel_rfl) rfl (by rfl) ?_
  have HX := Lib.hid (WK.out w9 M9.out)
  go_wp2_with fail
  refine HX.out.mono ?_
  rintro e w10 ⟨rfl, m10⟩
  go_wp2_with fail
  refine back_to (K1 := []) m10 (by simp) ?_
  have M10 := Lib.hid (M9.out.trans' m10)
  clear m10 HX
  refine rest_got (i := 18) (v := ?v16) rfl (by kernel_rfl) (by kernel_rfl) (by kernel_rfl) (fun _ _ _ h => h) (by rfl) ?y16 ?r16
  case y16 => (intro w9q hSwq; clear hSwq; go_simp; with_reducible rfl)
  try simp only [Act.put, List.setIfInBounds_toArray, List.set_cons_zero, List.set_cons_succ]
  refine rest_got (i := 19) (v := ?v17) rfl (by kernel_rfl) (by kernel_rfl) (by kernel_rfl) (fun _ _ _ h => h) (by rfl) ?y17 ?r17
  case y17 => (intro w9q hSwq; clear hSwq; go_simp; with_reducible rfl)
  try simp only [Act.put, List.setIfInBounds_toArray, List.set_cons_zero, List.set_cons_succ]
  refine rest_done (by kernel_rfl) ?_ _
  go_wp2_with fail
  go_ret
  exact ⟨rfl, M10.out⟩
end Go.Proofs.YtekdnljincbghaaDoor
