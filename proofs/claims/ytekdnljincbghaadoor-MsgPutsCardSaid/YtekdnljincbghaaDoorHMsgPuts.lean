/- The walk of quoratelaw17.MsgPuts. -/
import Derived.Test.YtekdnljincbghaaDoorZ7
import Derived.Test.YtekdnljincbghaaDoorHMsgR2
import Derived.Test.YtekdnljincbghaaDoorHMsgR4
namespace Go.Proofs.YtekdnljincbghaaDoor
open Go Go.RowKit Go.Lib

set_option maxRecDepth 100000 in
set_option maxHeartbeats 16000000 in
theorem msgPuts_any (a : Mm) (w : World) (ha : SeesM w a) (wa : WfM a) (hf : Flds w) (hT : TableAt w T0) :
    Calls Tryd.prog 3 #[msgV a] w fun e w' => e = .returned (.bool true) ∧ Mod [] w w' := by
  obtain ⟨k, bn, br, f, l, c, vo, vl, vc, so, bl, sc, po, sl, pc, hva, hra⟩ := mshape a
  have GA : Hid (∀ w', Mod [] w w' → Calls Tryd.prog 10 #[msgV a] w' fun e w'' => GreatR a e ∧ Mod [] w' w'') := Lib.hid (fun w' m => great17_any a w' (ha.mod0 m) wa)
  have WK : Hid (∀ w', Mod [] w w' → Calls Tryd.prog 11 #[] w' fun e w'' => e = .returned (.bool true) ∧ Mod [] w' w'') := Lib.hid (fun w' m => wakes17_any w' (hf.mod0 m) (hT.mod0 m))
  have OFA : Hid (∀ w', Mod [] w w' → Calls Tryd.prog 16 #[msgV a] w' fun e w'' => e = .returned (refV a) ∧ Mod [] w' w'') := Lib.hid (fun w' m => of17_any a w' wa.h.1)
  have OWA : Hid (FineM a → ∀ w', Mod [] w w' → Calls Tryd.prog 12 #[msgV a] w' fun e w'' => ∃ n, e = .returned (msgV n) ∧ n.d = a.d ∧ NewM w'.heap.size w'' n ∧ Mod [] w' w'') := Lib.hid (fun hF w' m => own17_any a w' (ha.mod0 m) wa hF.small)
  have RM : Hid (∀ w', Mod [] w w' → Calls Tryd.prog 17 #[refV a] w' fun e w'' => e = .returned (.bool (decide (MayM a.d))) ∧ Mod [] w' w'') := Lib.hid (fun w' m => rmay_any a w' (ha.mod0 m) wa)
  have RI : Hid (FineM a → MayM a.d → ∀ w', Mod [] w w' → Calls Tryd.prog 19 #[refV a] w' (RetApp w' none (insideB a.d))) := Lib.hid (fun hF hM w' m => rinside_any a w' (ha.mod0 m) wa hF.small hM)
  have HSM : Hid (FineM a → (insideB a.d).length ≤ 16000011) := Lib.hid (fun hF => insideB_len a hF.small)
  have ND : Hid (NumD a.d) := Lib.hid ⟨wa.h, fun v hv => by obtain ⟨y, hy, rfl⟩ := List.mem_map.1 hv; exact (wa.votes y hy).1⟩
  have RS : Hid (∀ (n : Mm) w', n.d = a.d → WfM n → SeesM w' n → Mod [] w w' → Calls Tryd.prog 15 #[refV n, refV a] w' fun e w'' => e = .returned (.bool true) ∧ Mod [] w' w'') := Lib.hid (fun n w' hd hn hs m => by
    have h := rsame_any n a w' hs (ha.mod0 m) ⟨hn.vlen, hn.blen⟩ ⟨wa.vlen, wa.blen⟩
    rwa [decide_eq_true hd] at h)
  have SMN : Hid (∀ n : Mm, n.d = a.d → FineM a → SmallM n) := Lib.hid (fun n hd hF => by
    have hs := hF.small
    have hv : dV n.votes = dV a.votes := congrArg Md.votes hd
    have hb : dB n.batches = dB a.batches := congrArg Md.batches hd
    have hp : n.p.1 = a.p.1 := congrArg Md.snap hd
    refine ⟨?_, fun v hv2 => ?_, ?_, fun b hb2 => ?_, ?_⟩
    · have := congrArg List.length hv
      rw [dV_length, dV_length] at this
      rw [this]
      exact hs.votes
    · have h1 : (v.1, v.2.1) ∈ dV n.votes := List.mem_map.2 ⟨v, hv2, rfl⟩
      rw [hv] at h1
      obtain ⟨y, hy, e⟩ := List.mem_map.1 h1
      have e2 : y.2.1 = v.2.1 := congrArg Prod.snd e
      rw [← e2]
      exact hs.vote y hy
    · have := congrArg List.length hb
      rw [dB_length, dB_length] at this
      rw [this]
      exact hs.batches
    · have h1 : b.1 ∈ dB n.batches := List.mem_map.2 ⟨b, hb2, rfl⟩
      rw [hb] at h1
      obtain ⟨y, hy, e⟩ := List.mem_map.1 h1
      rw [← e]
      exact hs.batch y hy
    · rw [hp]
      exact hs.snap)
  have HF := Lib.hid hf
  have HT := Lib.hid hT
  rw [hva] at GA OFA OWA ⊢
  rw [hra] at OFA RM RI RS
  obtain ⟨d, hd⟩ : ∃ x, a.d = x := ⟨_, rfl⟩
  rw [hd] at OWA RM RI HSM ND RS SMN
  clear hva hra ha wa hf hT hd
  have m1 := Mod.alloc [] w (.cells #[.int .u8 k, .int .u64 bn, .int .i64 br, .int .u64 f, .int .u64 l, .int .u64 c, .slice vo vl vc, .slice so bl sc, .slice po sl pc] 29)
  have hb1 := heap_alloc_new w (.cells #[.int .u8 k, .int .u64 bn, .int .i64 br, .int .u64 f, .int .u64 l, .int .u64 c, .slice vo vl vc, .slice so bl sc, .slice po sl pc] 29)
  obtain ⟨w1, hw1⟩ : ∃ x, w.alloc (.cells #[.int .u8 k, .int .u64 bn, .int .i64 br, .int .u64 f, .int .u64 l, .int .u64 c, .slice vo vl vc, .slice so bl sc, .slice po sl pc] 29) = x := ⟨_, rfl⟩
  rw [hw1] at m1 hb1
  have M1 := Lib.hid m1
  have LA := Lib.hid (box9 hb1)
  clear m1 hb1
  obtain ⟨a0, a1, a2, a3, a4, a5, a6, a7, a8⟩ := LA.out w1 (Mod.refl _ _)
  have HG := Lib.hid (GA.out w1 M1.out)
  go_enter Tryd.func3, Tryd.ntmps3
  go_wp2_with fail
  refine HG.out.mono ?_
  rintro e w3 ⟨⟨qa, rfl, hqa⟩, m3⟩
  have HFA := Lib.hid hqa
  have M3 := Lib.hid (M1.out.trans' m3)
  have LA3 : Hid (∀ w', Mod [] w3 w' → _) := Lib.hid (fun w' h => LA.out w' (m3.trans' h))
  clear hqa m3 a0 a1 a2 a3 a4 a5 a6 a7 a8 HG LA hw1 GA
  cases qa
  case true =>
    have HW := Lib.hid (WK.out w3 M3.out)
    go_wp2_with fail
    refine HW.out.mono ?_
    rintro e wk ⟨rfl, mk⟩
    have MK := Lib.hid (M3.out.trans' mk)
    clear mk HW
    go_wp2_with fail
    go_ret
    exact ⟨rfl, MK.out⟩
  replace HFA := Lib.hid (HFA.out rfl)
  obtain ⟨a0, a1, a2, a3, a4, a5, a6, a7, a8⟩ := LA3.out w3 (Mod.refl _ _)
  have HO := Lib.hid (OWA.out HFA.out w3 M3.out)
  go_wp2_with fail
  refine HO.out.mono ?_
  rintro e w4 ⟨n, rfl, hnd, nm4, m4⟩
  have M4 := Lib.hid (M3.out.trans' m4)
  have LA4 : Hid (∀ w', Mod [] w4 w' → _) := Lib.hid (fun w' h => LA3.out w' (m4.trans' h))
  have HND := Lib.hid hnd
  have NM4 := Lib.hid nm4
  have WFN := Lib.hid (nm4.wf (by rw [hnd]; exact ND.out))
  clear m4 a0 a1 a2 a3 a4 a5 a6 a7 a8 HO LA3 OWA hnd nm4
  obtain ⟨k2, bn2, br2, f2, l2, c2, vo2, vl2, vc2, so2, bl2, sc2, po2, sl2, pc2, hv2, hr2⟩ := mshape n
  rw [hv2]
  have HV2 := Lib.hid hv2
  have HR2 := Lib.hid hr2
  clear hv2 hr2
  obtain ⟨wz, hwz, hbz, hmz⟩ : ∃ x, w4.alloc (.cells #[.int .u8 0, .int .u64 0, .int .i64 0, .int .u64 0, .int .u64 0, .int .u64 0, .slice none 0 0, .slice none 0 0, .slice none 0 0] 29) = x ∧ x.heap[w4.heap.size]? = some (.cells #[.int .u8 0, .int .u64 0, .int .i64 0, .int .u64 0, .int .u64 0, .int .u64 0, .slice none 0 0, .slice none 0 0, .slice none 0 0] 29 (0, 0)) ∧ Mod [] w4 x := ⟨_, rfl, heap_alloc_new w4 _, Mod.alloc _ _ _⟩
  have z0 := cell_of_block (i := 0) hbz
  have y0 := free_of_block (i := 0) hbz
  have z1 := cell_of_block (i := 1) hbz
  have y1 := free_of_block (i := 1) hbz
  have z2 := cell_of_block (i := 2) hbz
  have y2 := free_of_block (i := 2) hbz
  have z3 := cell_of_block (i := 3) hbz
  have y3 := free_of_block (i := 3) hbz
  have z4 := cell_of_block (i := 4) hbz
  have y4 := free_of_block (i := 4) hbz
  have z5 := cell_of_block (i := 5) hbz
  have y5 := free_of_block (i := 5) hbz
  have z6 := cell_of_block (i := 6) hbz
  have y6 := free_of_block (i := 6) hbz
  have z7 := cell_of_block (i := 7) hbz
  have y7 := free_of_block (i := 7) hbz
  have z8 := cell_of_block (i := 8) hbz
  have y8 := free_of_block (i := 8) hbz
  simp only [List.getElem?_toArray, List.getElem?_cons_succ, List.getElem?_cons_zero] at z0 z1 z2 z3 z4 z5 z6 z7 z8
  go_upto_region 4 with (fail)
  obtain ⟨w5, hw5⟩ : ∃ x, (((((((((wz.setCell ⟨w4.heap.size, 0, none⟩ (.int .u8 k2)).setCell ⟨w4.heap.size, 1, none⟩ (.int .u64 bn2)).setCell ⟨w4.heap.size, 2, none⟩ (.int .i64 br2)).setCell ⟨w4.heap.size, 3, none⟩ (.int .u64 f2)).setCell ⟨w4.heap.size, 4, none⟩ (.int .u64 l2)).setCell ⟨w4.heap.size, 5, none⟩ (.int .u64 c2)).setCell ⟨w4.heap.size, 6, none⟩ (.slice vo2 vl2 vc2)).setCell ⟨w4.heap.size, 7, none⟩ (.slice so2 bl2 sc2)).setCell ⟨w4.heap.size, 8, none⟩ (.slice po2 sl2 pc2)) = x := ⟨_, rfl⟩
  rw [hw5]
  have hbw5 : w5.heap[w4.heap.size]? = some (.cells #[.int .u8 k2, .int .u64 bn2, .int .i64 br2, .int .u64 f2, .int .u64 l2, .int .u64 c2, .slice vo2 vl2 vc2, .slice so2 bl2 sc2, .slice po2 sl2 pc2] 29 (0, 0)) := by
    rw [← hw5]
    have h := (heap_setCell_same (i := 8) (heap_setCell_same (i := 7) (heap_setCell_same (i := 6) (heap_setCell_same (i := 5) (heap_setCell_same (i := 4) (heap_setCell_same (i := 3) (heap_setCell_same (i := 2) (heap_setCell_same (i := 1) (heap_setCell_same (i := 0) hbz (.int .u8 k2)) (.int .u64 bn2)) (.int .i64 br2)) (.int .u64 f2)) (.int .u64 l2)) (.int .u64 c2)) (.slice vo2 vl2 vc2)) (.slice so2 bl2 sc2)) (.slice po2 sl2 pc2))
    simp only [List.setIfInBounds_toArray, List.set_cons_zero, List.set_cons_succ] at h
    exact h
  have mw5 : Mod [] w4 w5 := by
    rw [← hw5]
    exact hmz.trans (T := [w4.heap.size]) (((((((((Mod.setCell _ _ _ (by simp)).trans' (Mod.setCell _ _ _ (by simp))).trans' (Mod.setCell _ _ _ (by simp))).trans' (Mod.setCell _ _ _ (by simp))).trans' (Mod.setCell _ _ _ (by simp))).trans' (Mod.setCell _ _ _ (by simp))).trans' (Mod.setCell _ _ _ (by simp))).trans' (Mod.setCell _ _ _ (by simp))).trans' (Mod.setCell _ _ _ (by simp))) (by simp)
  clear z0 z1 z2 z3 z4 z5 z6 z7 z8 y0 y1 y2 y3 y4 y5 y6 y7 y8 hbz hmz hwz hw5
  have M5 := Lib.hid (M4.out.trans' mw5)
  have LA5 : Hid (∀ w', Mod [] w5 w' → _) := Lib.hid (fun w' h => LA4.out w' (mw5.trans' h))
  have LB5 := Lib.hid (box9 hbw5)
  have NM5 := Lib.hid (NM4.out.mod0 mw5)
  clear mw5 hbw5 LA4 NM4
  obtain ⟨b0, b1, b2, b3, b4, b5, b6, b7, b8⟩ := LB5.out w5 (Mod.refl _ _)
  have HC := Lib.hid (check_any n w5 NM5.out.sees WFN.out (HF.out.mod0 M5.out))
  rw [HV2.out, HND.out] at HC
  go_wp2_with fail
  refine HC.out.mono ?_
  rintro e w6 ⟨rfl, m6⟩
  have M6 := Lib.hid (M5.out.trans' m6)
  have LA6 : Hid (∀ w', Mod [] w6 w' → _) := Lib.hid (fun w' h => LA5.out w' (m6.trans' h))
  have LB6 : Hid (∀ w', Mod [] w6 w' → _) := Lib.hid (fun w' h => LB5.out w' (m6.trans' h))
  have NM6 := Lib.hid (NM5.out.mod0 m6)
  clear m6 b0 b1 b2 b3 b4 b5 b6 b7 b8 HC LA5 LB5 NM5
  obtain ⟨b0, b1, b2, b3, b4, b5, b6, b7, b8⟩ := LB6.out w6 (Mod.refl _ _)
  have HC := Lib.hid (mput_any n w6 NM6.out.sees WFN.out (SMN.out n HND.out HFA.out) (HF.out.mod0 M6.out) (HT.out.mod0 M6.out))
  rw [HV2.out, HND.out] at HC
  go_wp2_with fail
  refine HC.out.mono ?_
  rintro e w7 ⟨yo, yn, yc, rfl, hyn, hyo, m7, -⟩
  have M7 := Lib.hid (M6.out.trans' m7)
  have LA7 : Hid (∀ w', Mod [] w7 w' → _) := Lib.hid (fun w' h => LA6.out w' (m7.trans' h))
  have LB7 : Hid (∀ w', Mod [] w7 w' → _) := Lib.hid (fun w' h => LB6.out w' (m7.trans' h))
  have NM7 := Lib.hid (NM6.out.mod0 m7)
  have O7 := Lib.hid hyo
  have HYN := Lib.hid hyn
  clear m7 b0 b1 b2 b3 b4 b5 b6 b7 b8 HC LA6 LB6 NM6 hyo hyn
  go_upto_region 6 with (fail)
  have OFN : Hid (∀ w', Calls Tryd.prog 16 #[msgV n] w' fun e w'' => e = .returned (refV n) ∧ Mod [] w' w'') := Lib.hid (fun w' => of17_any n w' WFN.out.h.1)
  have RSN : Hid (∀ w', Mod [] w7 w' → Calls Tryd.prog 15 #[refV n, _] w' fun e w'' => e = .returned (.bool true) ∧ Mod [] w' w'') := Lib.hid (fun w' m => RS.out n w' HND.out WFN.out (NM7.out.sees.mod0 m) (M7.out.trans' m))
  rw [HV2.out, HR2.out] at OFN
  rw [HR2.out] at RSN
  obtain ⟨ce, hce⟩ : ∃ x, checkE d = x := ⟨_, rfl⟩
  rw [hce]
  have HCE := Lib.hid hce
  clear hce RS NM7 SMN
  refine rest_start [] 11 #[false, false, false, false, false, false, false, false, false, false, false] rfl (by kernel_rfl) (by kernel_rfl) ?_
  intro w8 m8
  have M8 := Lib.hid (M7.out.trans' m8)
  have N8 := Lib.hid m8
  have LA8 : Hid (∀ w', Mod [] w8 w' → _) := Lib.hid (fun w' h => LA7.out w' (m8.trans' h))
  have LB8 : Hid (∀ w', Mod [] w8 w' → _) := Lib.hid (fun w' h => LB7.out w' (m8.trans' h))
  clear m8 M7 LA7 LB7
  refine rest_got (i := 0) (v := ?v1) rfl (by kernel_rfl) (by kernel_rfl) (by kernel_rfl) (fun _ _ _ h => h) (by rfl) ?y1 ?r1
  case y1 => ((intro w9' hm9'; obtain ⟨hc0', hc1', hc2', hc3', hc4', hc5', hc6', hc7', hc8'⟩ := LB8.out w9' hm9'; clear hm9'; go_simp; with_reducible rfl))
  try simp only [Act.put, List.setIfInBounds_toArray, List.set_cons_zero, List.set_cons_succ]
  refine rest_got (i := 2) (v := ?v2) rfl (by kernel_rfl) (by kernel_rfl) (by kernel_rfl) (fun _ _ _ h => h) (by rfl) ?y2 ?r2
  case y2 => ((intro w9' hm9'; obtain ⟨hc0', hc1', hc2', hc3', hc4', hc5', hc6', hc7', hc8'⟩ := LA8.out w9' hm9'; clear hm9'; go_simp; with_reducible rfl))
  try simp only [Act.put, List.setIfInBounds_toArray, List.set_cons_zero, List.set_cons_succ]
  refine rest_one (i := 1) (by kernel_rfl) rfl (by rfl) ?_
  have HX := Lib.hid (OFN.out w8)
  go_wp2_with fail
  refine HX.out.mono ?_
  rintro e w9 ⟨rfl, m9⟩
  go_wp2_with fail
  refine back_to (K1 := []) m9 (by simp) ?_
  have M9 := Lib.hid (M8.out.trans' m9)
  have N9 := Lib.hid (N8.out.trans' m9)
  have LA9 : Hid (∀ w', Mod [] w9 w' → _) := Lib.hid (fun w' h => LA8.out w' (m9.trans' h))
  have LB9 : Hid (∀ w', Mod [] w9 w' → _) := Lib.hid (fun w' h => LB8.out w' (m9.trans' h))
  clear m9 HX M8 N8 LA8 LB8
  
  refine rest_one (i := 3) (by kernel_rfl) rfl (by rfl) ?_
  have HX := Lib.hid (OFA.out w9 M9.out)
  go_wp2_with fail
  refine HX.out.mono ?_
  rintro e w10 ⟨rfl, m10⟩
  go_wp2_with fail
  refine back_to (K1 := []) m10 (by simp) ?_
  have M10 := Lib.hid (M9.out.trans' m10)
  have N10 := Lib.hid (N9.out.trans' m10)
  have LA10 : Hid (∀ w', Mod [] w10 w' → _) := Lib.hid (fun w' h => LA9.out w' (m10.trans' h))
  have LB10 : Hid (∀ w', Mod [] w10 w' → _) := Lib.hid (fun w' h => LB9.out w' (m10.trans' h))
  clear m10 HX M9 N9 LA9 LB9
  
  refine rest_one (i := 4) (by kernel_rfl) rfl (by rfl) ?_
  have HX := Lib.hid (RSN.out w10 N10.out)
  go_wp2_with fail
  refine HX.out.mono ?_
  rintro e w11 ⟨rfl, m11⟩
  go_wp2_with fail
  refine back_to (K1 := []) m11 (by simp) ?_
  have M11 := Lib.hid (M10.out.trans' m11)
  have N11 := Lib.hid (N10.out.trans' m11)
  have LA11 : Hid (∀ w', Mod [] w11 w' → _) := Lib.hid (fun w' h => LA10.out w' (m11.trans' h))
  have LB11 : Hid (∀ w', Mod [] w11 w' → _) := Lib.hid (fun w' h => LB10.out w' (m11.trans' h))
  clear m11 HX M10 N10 LA10 LB10
  refine rest_got (i := 5) (v := ?v3) rfl (by kernel_rfl) (by kernel_rfl) (by kernel_rfl) (fun _ _ _ h => h) (by rfl) ?y3 ?r3
  case y3 => (intro w9q hSwq; clear hSwq; go_simp; with_reducible rfl)
  try simp only [Act.put, List.setIfInBounds_toArray, List.set_cons_zero, List.set_cons_succ]
  refine rest_got (i := 6) (v := ?v4) rfl (by kernel_rfl) (by kernel_rfl) (by kernel_rfl) (fun _ _ _ h => h) (by rfl) ?y4 ?r4
  case y4 => (intro w9q hSwq; clear hSwq; go_simp; with_reducible rfl)
  try simp only [Act.put, List.setIfInBounds_toArray, List.set_cons_zero, List.set_cons_succ]
  refine rest_got (i := 7) (v := ?v5) rfl (by kernel_rfl) (by kernel_rfl) (by kernel_rfl) (fun _ _ _ h => h) (by rfl) ?y5 ?r5
  case y5 => (intro w9q hSwq; clear hSwq; go_simp; with_reducible rfl)
  try simp only [Act.put, List.setIfInBounds_toArray, List.set_cons_zero, List.set_cons_succ]
  refine rest_got (i := 8) (v := ?v6) rfl (by kernel_rfl) (by kernel_rfl) (by kernel_rfl) (fun _ _ _ h => h) (by rfl) ?y6 ?r6
  case y6 => (intro w9q hSwq; clear hSwq; go_simp; with_reducible rfl)
  try simp only [Act.put, List.setIfInBounds_toArray, List.set_cons_zero, List.set_cons_succ]
  refine rest_got (i := 9) (v := ?v7) rfl (by kernel_rfl) (by kernel_rfl) (by kernel_rfl) (fun _ _ _ h => h) (by rfl) ?y7 ?r7
  case y7 => (intro w9q hSwq; clear hSwq; go_simp; with_reducible rfl)
  try simp only [Act.put, List.setIfInBounds_toArray, List.set_cons_zero, List.set_cons_succ]
  refine rest_got (i := 10) (v := ?v8) rfl (by kernel_rfl) (by kernel_rfl) (by kernel_rfl) (fun _ _ _ h => h) (by rfl) ?y8 ?r8
  case y8 => (intro w9q hSwq; clear hSwq; go_simp; with_reducible rfl)
  try simp only [Act.put, List.setIfInBounds_toArray, List.set_cons_zero, List.set_cons_succ]
  refine rest_done (by kernel_rfl) ?_ _
  obtain ⟨a0, a1, a2, a3, a4, a5, a6, a7, a8⟩ := LA11.out w11 (Mod.refl _ _)
  have HO1 := Lib.hid (OFA.out w11 M11.out)
  go_wp2_with fail
  refine HO1.out.mono ?_
  rintro e w20 ⟨rfl, m20⟩
  have M20 := Lib.hid (M11.out.trans' m20)
  have N20 := Lib.hid (N11.out.trans' m20)
  have LA20 : Hid (∀ w', Mod [] w20 w' → _) := Lib.hid (fun w' h => LA11.out w' (m20.trans' h))
  clear m20 a0 a1 a2 a3 a4 a5 a6 a7 a8 HO1 LA11 LB11 M11 N11
  have HRM := Lib.hid (RM.out w20 M20.out)
  obtain ⟨qm, hqm⟩ : ∃ q, decide (MayM d) = q := ⟨_, rfl⟩
  rw [hqm] at HRM
  go_wp2_with fail
  refine HRM.out.mono ?_
  rintro e w21 ⟨rfl, m21⟩
  have M21 := Lib.hid (M20.out.trans' m21)
  have N21 := Lib.hid (N20.out.trans' m21)
  have LA21 : Hid (∀ w', Mod [] w21 w' → _) := Lib.hid (fun w' h => LA20.out w' (m21.trans' h))
  clear m21 HRM RM LA20 M20 N20
  cases qm
  case false =>
    have hM := of_decide_eq_false hqm
    obtain rfl : ce = 1 := by rw [← HCE.out]; exact checkE_no hM
    have hyn := HYN.out
    rw [if_neg hM] at hyn
    obtain rfl : yn = 0 := hyn.symm
    clear hM hqm
    have HW := Lib.hid (WK.out w21 M21.out)
    go_wp2_with fail
    refine HW.out.mono ?_
    rintro e wk ⟨rfl, mk⟩
    have MK := Lib.hid (M21.out.trans' mk)
    clear mk HW
    go_wp2_with fail
    go_ret
    exact ⟨rfl, MK.out⟩
  have hM := of_decide_eq_true hqm
  obtain rfl : ce = 0 := by rw [← HCE.out]; exact if_pos hM
  have hyn := HYN.out
  rw [if_pos hM] at hyn O7
  subst hyn
  have RI2 := Lib.hid (RI.out HFA.out hM)
  have hil := HSM.out HFA.out
  clear hM hqm RI HSM HYN
  go_upto_region 10 with (fail)
  refine rest_start [] 16 #[false, false, false, false, false, false, false, false, false, false, false, false, false, false, false, false] rfl (by kernel_rfl) (by kernel_rfl) ?_
  intro w22 m22
  have M22 := Lib.hid (M21.out.trans' m22)
  have LA22 : Hid (∀ w', Mod [] w22 w' → _) := Lib.hid (fun w' h => LA21.out w' (m22.trans' h))
  have SX := Lib.hid ((O7.out.sees).mod0 (N21.out.trans' m22))
  clear m22 M21 N21 LA21 O7
  refine rest_got (i := 0) (v := ?v9) rfl (by kernel_rfl) (by kernel_rfl) (by kernel_rfl) (fun _ _ _ h => h) (by rfl) ?y9 ?r9
  case y9 => (intro w9q hSwq; clear hSwq; go_simp; with_reducible rfl)
  try simp only [Act.put, List.setIfInBounds_toArray, List.set_cons_zero, List.set_cons_succ]
  refine rest_got (i := 1) (v := ?v10) rfl (by kernel_rfl) (by kernel_rfl) (by kernel_rfl) (fun _ _ _ h => h) (by rfl) ?y10 ?r10
  case y10 => (intro w9q hSwq; clear hSwq; go_simp; with_reducible rfl)
  try simp only [Act.put, List.setIfInBounds_toArray, List.set_cons_zero, List.set_cons_succ]
  refine rest_got (i := 2) (v := ?v11) rfl (by kernel_rfl) (by kernel_rfl) (by kernel_rfl) (fun _ _ _ h => h) (by rfl) ?y11 ?r11
  case y11 => (intro w9q hSwq; clear hSwq; go_simp; with_reducible rfl)
  try simp only [Act.put, List.setIfInBounds_toArray, List.set_cons_zero, List.set_cons_succ]
  refine rest_got (i := 3) (v := ?v12) rfl (by kernel_rfl) (by kernel_rfl) (by kernel_rfl) (fun _ _ _ h => h) (by rfl) ?y12 ?r12
  case y12 => (intro w9q hSwq; clear hSwq; go_simp; with_reducible rfl)
  try simp only [Act.put, List.setIfInBounds_toArray, List.set_cons_zero, List.set_cons_succ]
  refine rest_got (i := 4) (v := ?v13) rfl (by kernel_rfl) (by kernel_rfl) (by kernel_rfl) (fun _ _ _ h => h) (by rfl) ?y13 ?r13
  case y13 => ((intro w9' hm9'; refine Eq.trans (reads_str _ _ _ _ 5 Tryd.underlying27 Tryd.underlying5 Tryd.underlying9 _ _ _ _ rfl (by first | rfl | simp) SX.out (by first | (intro k _ hk; exact (List.not_mem_nil hk)) | simp) w9' hm9') ?_; with_reducible rfl))
  try simp only [Act.put, List.setIfInBounds_toArray, List.set_cons_zero, List.set_cons_succ]
  refine rest_got (i := 5) (v := ?v14) rfl (by kernel_rfl) (by kernel_rfl) (by kernel_rfl) (fun _ _ _ h => h) (by rfl) ?y14 ?r14
  case y14 => ((intro w9' hm9'; obtain ⟨hc0', hc1', hc2', hc3', hc4', hc5', hc6', hc7', hc8'⟩ := LA22.out w9' hm9'; clear hm9'; go_simp; with_reducible rfl))
  try simp only [Act.put, List.setIfInBounds_toArray, List.set_cons_zero, List.set_cons_succ]
  refine rest_one (i := 6) (by kernel_rfl) rfl (by rfl) ?_
  have HX := Lib.hid (OFA.out w22 M22.out)
  go_wp2_with fail
  refine HX.out.mono ?_
  rintro e w23 ⟨rfl, m23⟩
  go_wp2_with fail
  refine back_to (K1 := []) m23 (by simp) ?_
  have M23 := Lib.hid (M22.out.trans' m23)
  have SX23 := Lib.hid (SX.out.mod0 m23)
  clear m23 HX M22 SX LA22
  
  refine rest_one (i := 7) (by kernel_rfl) rfl (by rfl) ?_
  have HX := Lib.hid (RI2.out w23 M23.out)
  go_wp2_with fail
  refine HX.out.mono ?_
  rintro e w24 ⟨ia, iin, ic, rfl, ik, io, im, -⟩
  go_wp2_with fail
  refine back_to (K1 := []) im (by simp) ?_
  have M24 := Lib.hid (M23.out.trans' im)
  have SX24 := Lib.hid (SX23.out.mod0 im)
  have HX2 := Lib.hid (rsummed_any ia iin ic (insideB d) w24 ik io.sees (by omega))
  clear im HX M23 SX23 ik io
  
  refine rest_one (i := 8) (by kernel_rfl) rfl (by rfl) ?_
  go_wp2_with fail
  refine HX2.out.mono ?_
  rintro e w25 ⟨ja, jn, jc, rfl, jk, jo, jm, -⟩
  subst jk
  go_wp2_with fail
  refine back_to (K1 := []) jm (by simp) ?_
  have M25 := Lib.hid (M24.out.trans' jm)
  have SX25 := Lib.hid (SX24.out.mod0 jm)
  have SY25 := Lib.hid jo.sees
  have DQ : Hid (decide (msgB d = sum4 (insideB d) ++ insideB d) = true) := Lib.hid (decide_eq_true rfl)
  clear jm HX2 M24 SX24 jo
  refine rest_got (i := 9) (v := ?v15) rfl (by kernel_rfl) (by kernel_rfl) (by kernel_rfl) (fun _ _ _ h => h) (by rfl) ?y15 ?r15
  case y15 => ((intro w9' hm9'; refine Eq.trans (reads_str _ _ _ _ 5 Tryd.underlying27 Tryd.underlying5 Tryd.underlying9 _ _ _ _ rfl (by first | rfl | simp) SY25.out (by first | (intro k _ hk; exact (List.not_mem_nil hk)) | simp) w9' hm9') ?_; with_reducible rfl))
  try simp only [Act.put, List.setIfInBounds_toArray, List.set_cons_zero, List.set_cons_succ]
  refine rest_got (i := 10) (v := ?v16) rfl (by kernel_rfl) (by kernel_rfl) (by kernel_rfl) (fun _ _ _ h => h) (by rfl) ?y16 ?r16
  case y16 => ((intro w9' hm9'; refine Eq.trans (reads_eqs w9' _ _ _ _ _ rfl rfl) ?_; refine Eq.trans (congrArg (fun b => Result.ok (Next.value (Value.bool b)) w9') DQ.out) ?_; with_reducible rfl))
  try simp only [Act.put, List.setIfInBounds_toArray, List.set_cons_zero, List.set_cons_succ]
  refine rest_got (i := 11) (v := ?v17) rfl (by kernel_rfl) (by kernel_rfl) (by kernel_rfl) (fun _ _ _ h => h) (by rfl) ?y17 ?r17
  case y17 => (intro w9q hSwq; clear hSwq; go_simp; with_reducible rfl)
  try simp only [Act.put, List.setIfInBounds_toArray, List.set_cons_zero, List.set_cons_succ]
  refine rest_got (i := 12) (v := ?v18) rfl (by kernel_rfl) (by kernel_rfl) (by kernel_rfl) (fun _ _ _ h => h) (by rfl) ?y18 ?r18
  case y18 => (intro w9q hSwq; clear hSwq; go_simp; with_reducible rfl)
  try simp only [Act.put, List.setIfInBounds_toArray, List.set_cons_zero, List.set_cons_succ]
  refine rest_one (i := 13) (by kernel_rfl) rfl (by rfl) ?_
  have HX := Lib.hid (WK.out w25 M25.out)
  go_wp2_with fail
  refine HX.out.mono ?_
  rintro e w26 ⟨rfl, m26⟩
  go_wp2_with fail
  refine back_to (K1 := []) m26 (by simp) ?_
  have M26 := Lib.hid (M25.out.trans' m26)
  clear m26 HX
  refine rest_got (i := 14) (v := ?v19) rfl (by kernel_rfl) (by kernel_rfl) (by kernel_rfl) (fun _ _ _ h => h) (by rfl) ?y19 ?r19
  case y19 => (intro w9q hSwq; clear hSwq; go_simp; with_reducible rfl)
  try simp only [Act.put, List.setIfInBounds_toArray, List.set_cons_zero, List.set_cons_succ]
  refine rest_got (i := 15) (v := ?v20) rfl (by kernel_rfl) (by kernel_rfl) (by kernel_rfl) (fun _ _ _ h => h) (by rfl) ?y20 ?r20
  case y20 => (intro w9q hSwq; clear hSwq; go_simp; with_reducible rfl)
  try simp only [Act.put, List.setIfInBounds_toArray, List.set_cons_zero, List.set_cons_succ]
  refine rest_done (by kernel_rfl) ?_ _
  go_wp2_with fail
  go_ret
  exact ⟨rfl, M26.out⟩
end Go.Proofs.YtekdnljincbghaaDoor
