/- The walk of quoratelaw17.MsgBack. -/
import Derived.Test.YtekdnljincbghaaDoorMsgSame
namespace Go.Proofs.YtekdnljincbghaaDoor
open Go Go.RowKit Go.Lib

theorem small_of (m : Mm) (hM : MayM m.d) (h : (msgB m.d).length ≤ 5000) : SmallM m := by
  have hf := fit_of m.d hM
  have hL : Lists m.d := hM.2.2.2.2.2.2.2.2.2.2
  obtain ⟨f1, f2, f3⟩ := hf
  refine ⟨?_, fun v hv => ?_, ?_, fun b hb => ?_, ?_⟩
  · have h1 := hL.2.1
    unfold Mm.d at h1
    dsimp only at h1
    rw [dV_length] at h1
    omega
  · have h1 := f3 (v.1, v.2.1) (List.mem_map.2 ⟨v, hv, rfl⟩)
    dsimp only at h1
    omega
  · have h1 := hL.1
    unfold Mm.d at h1
    dsimp only at h1
    rw [dB_length] at h1
    omega
  · have h1 := f2 b.1 (List.mem_map.2 ⟨b, hb, rfl⟩)
    omega
  · have h1 : (m.p.1.length : Int) ≤ _ := f1
    omega
set_option maxRecDepth 100000 in
set_option maxHeartbeats 16000000 in
theorem msgBack_any (a b : Mm) (xo : Option Addr) (xn xc : Nat) (xl : List UInt8) (w : World) (ha : SeesM w a) (hb : SeesM w b) (wa : WfM a) (wb : WfM b) (hxl : xl.length = xn) (hxc : xn ≤ xc) (hxm : xc ≤ 9223372036854775807) (hx : Sees w xo xl) (hf : Flds w) (hT : TableAt w T0) :
    Calls Tryd.prog 7 #[msgV a, msgV b, .slice xo xn xc] w fun e w' => e = .returned (.bool true) ∧ Mod [] w w' := by
  obtain ⟨k, bn, br, f, l, c, vo, vl, vc, so, bl, sc, po, sl, pc, hva, hra⟩ := mshape a
  obtain ⟨k', bn', br', f', l', c', vo', vl', vc', so', bl', sc', po', sl', pc', hvb, hrb⟩ := mshape b
  have GA : Hid (∀ w', Mod [] w w' → Calls Tryd.prog 10 #[msgV a] w' fun e w'' => GreatR a e ∧ Mod [] w' w'') := Lib.hid (fun w' m => great17_any a w' (ha.mod0 m) wa)
  have GB : Hid (∀ w', Mod [] w w' → Calls Tryd.prog 10 #[msgV b] w' fun e w'' => GreatR b e ∧ Mod [] w' w'') := Lib.hid (fun w' m => great17_any b w' (hb.mod0 m) wb)
  have WK : Hid (∀ w', Mod [] w w' → Calls Tryd.prog 11 #[] w' fun e w'' => e = .returned (.bool true) ∧ Mod [] w' w'') := Lib.hid (fun w' m => wakes17_any w' (hf.mod0 m) (hT.mod0 m))
  have PTA : Hid (FineM a → ∀ w', Mod [] w w' → Calls Tryd.prog 14 #[msgV a] w' (PutM w' a.d)) := Lib.hid (fun hF w' m => mput_any a w' (ha.mod0 m) wa hF.small (hf.mod0 m) (hT.mod0 m))
  have HSMA : Hid (FineM a → (insideB a.d).length ≤ 16000011) := Lib.hid (fun hF => insideB_len a hF.small)
  have PTB : Hid (FineM b → ∀ w', Mod [] w w' → Calls Tryd.prog 14 #[msgV b] w' (PutM w' b.d)) := Lib.hid (fun hF w' m => mput_any b w' (hb.mod0 m) wb hF.small (hf.mod0 m) (hT.mod0 m))
  have HSMB : Hid (FineM b → (insideB b.d).length ≤ 16000011) := Lib.hid (fun hF => insideB_len b hF.small)
  have CKA : Hid (∀ w', Mod [] w w' → Calls Tryd.prog 13 #[msgV a] w' fun e w'' => e = .returned (.int .i64 (checkE a.d)) ∧ Mod [] w' w'') := Lib.hid (fun w' m => check_any a w' (ha.mod0 m) wa (hf.mod0 m))
  have NDA : Hid (NumD a.d) := Lib.hid ⟨wa.h, fun v hv => by obtain ⟨y, hy, rfl⟩ := List.mem_map.1 hv; exact (wa.votes y hy).1⟩
  have NDB : Hid (NumD b.d) := Lib.hid ⟨wb.h, fun v hv => by obtain ⟨y, hy, rfl⟩ := List.mem_map.1 hv; exact (wb.votes y hy).1⟩
  have SNA : Hid (∀ (n : Mm) w', n.d = a.d → Mod [] w w' → SeesM w' n → WfM n → Calls Tryd.prog 22 #[msgV n, msgV a] w' fun e w3 => e = .returned (.bool true) ∧ Mod [] w' w3) := Lib.hid (fun n w' hd m hs hn => by
    have h := msame_any n a w' hs (ha.mod0 m) hn wa
    rwa [decide_eq_true hd] at h)
  have SAB : Hid (∀ w', Mod [] w w' → Calls Tryd.prog 22 #[msgV a, msgV b] w' fun e w'' => e = .returned (.bool (decide (a.d = b.d))) ∧ Mod [] w' w'') := Lib.hid (fun w' m => msame_any a b w' (ha.mod0 m) (hb.mod0 m) wa wb)
  have HF := Lib.hid hf
  have HT := Lib.hid hT
  have HX := Lib.hid hx
  have HXL := Lib.hid hxl
  rw [hva] at GA PTA CKA SNA SAB ⊢
  rw [hvb] at GB PTB SAB ⊢
  clear hva hvb hra hrb ha hb wa wb hf hT hx hxl
  have m1 := Mod.alloc [] w (.cells #[.int .u8 k, .int .u64 bn, .int .i64 br, .int .u64 f, .int .u64 l, .int .u64 c, .slice vo vl vc, .slice so bl sc, .slice po sl pc] 29)
  have hb1 := heap_alloc_new w (.cells #[.int .u8 k, .int .u64 bn, .int .i64 br, .int .u64 f, .int .u64 l, .int .u64 c, .slice vo vl vc, .slice so bl sc, .slice po sl pc] 29)
  obtain ⟨w1, hw1⟩ : ∃ x, w.alloc (.cells #[.int .u8 k, .int .u64 bn, .int .i64 br, .int .u64 f, .int .u64 l, .int .u64 c, .slice vo vl vc, .slice so bl sc, .slice po sl pc] 29) = x := ⟨_, rfl⟩
  rw [hw1] at m1 hb1
  have m2 := Mod.alloc [] w1 (.cells #[.int .u8 k', .int .u64 bn', .int .i64 br', .int .u64 f', .int .u64 l', .int .u64 c', .slice vo' vl' vc', .slice so' bl' sc', .slice po' sl' pc'] 29)
  have hb2 := heap_alloc_new w1 (.cells #[.int .u8 k', .int .u64 bn', .int .i64 br', .int .u64 f', .int .u64 l', .int .u64 c', .slice vo' vl' vc', .slice so' bl' sc', .slice po' sl' pc'] 29)
  obtain ⟨w2, hw2⟩ : ∃ x, w1.alloc (.cells #[.int .u8 k', .int .u64 bn', .int .i64 br', .int .u64 f', .int .u64 l', .int .u64 c', .slice vo' vl' vc', .slice so' bl' sc', .slice po' sl' pc'] 29) = x := ⟨_, rfl⟩
  rw [hw2] at m2 hb2
  have M2 := Lib.hid (m1.trans' m2)
  have LA := Lib.hid (box9 (m2.get hb1 List.not_mem_nil))
  have LB := Lib.hid (box9 hb2)
  clear m1 hb1 m2 hb2
  obtain ⟨a0, a1, a2, a3, a4, a5, a6, a7, a8⟩ := LA.out w2 (Mod.refl _ _)
  have HG := Lib.hid (GA.out w2 M2.out)
  go_enter Tryd.func7, Tryd.ntmps7
  go_wp2_with fail
  refine HG.out.mono ?_
  rintro e w3 ⟨⟨qa, rfl, hqa⟩, m3⟩
  have HFA := Lib.hid hqa
  have M3 := Lib.hid (M2.out.trans' m3)
  have LB3 : Hid (∀ w', Mod [] w3 w' → _) := Lib.hid (fun w' h => LB.out w' (m3.trans' h))
  have LA3 : Hid (∀ w', Mod [] w3 w' → _) := Lib.hid (fun w' h => LA.out w' (m3.trans' h))
  clear hqa m3 a0 a1 a2 a3 a4 a5 a6 a7 a8 HG LA LB hw1 hw2 GA
  cases qa
  case true =>
    have HW := Lib.hid (WK.out w3 M3.out)
    go_wp2_with fail
    refine HW.out.mono ?_
    rintro e wk ⟨rfl, mk⟩
    have MK := Lib.hid (M3.out.trans' mk)
    clear mk HW
    go_wp2_with fail
    go_ret
    exact ⟨rfl, MK.out⟩
  replace HFA := Lib.hid (HFA.out rfl)
  obtain ⟨b0, b1, b2, b3, b4, b5, b6, b7, b8⟩ := LB3.out w3 (Mod.refl _ _)
  have HG := Lib.hid (GB.out w3 M3.out)
  go_wp2_with fail
  refine HG.out.mono ?_
  rintro e w4 ⟨⟨qb, rfl, hqb⟩, m4⟩
  have HFB := Lib.hid hqb
  have M4 := Lib.hid (M3.out.trans' m4)
  have LB4 : Hid (∀ w', Mod [] w4 w' → _) := Lib.hid (fun w' h => LB3.out w' (m4.trans' h))
  have LA4 : Hid (∀ w', Mod [] w4 w' → _) := Lib.hid (fun w' h => LA3.out w' (m4.trans' h))
  clear hqb m4 b0 b1 b2 b3 b4 b5 b6 b7 b8 HG LA3 LB3 GB
  cases qb
  case true =>
    have HW := Lib.hid (WK.out w4 M4.out)
    go_wp2_with fail
    refine HW.out.mono ?_
    rintro e wk ⟨rfl, mk⟩
    have MK := Lib.hid (M4.out.trans' mk)
    clear mk HW
    go_wp2_with fail
    go_ret
    exact ⟨rfl, MK.out⟩
  replace HFB := Lib.hid (HFB.out rfl)
  by_cases h5 : 5000 < xn
  case pos =>
    have D5 : decide ((5000 : Int) < (xn : Int)) = true := decide_eq_true (by omega)
    clear h5
    have HW := Lib.hid (WK.out w4 M4.out)
    go_wp2_with fail
    refine HW.out.mono ?_
    rintro e wk ⟨rfl, mk⟩
    have MK := Lib.hid (M4.out.trans' mk)
    clear mk HW
    go_wp2_with fail
    go_ret
    exact ⟨rfl, MK.out⟩
  have D5 : decide ((5000 : Int) < (xn : Int)) = false := decide_eq_false (by omega)
  have h5' : xn ≤ 5000 := by omega
  clear h5
  have HSA := Lib.hid (HSMA.out HFA.out)
  have HSB := Lib.hid (HSMB.out HFB.out)
  obtain ⟨a0, a1, a2, a3, a4, a5, a6, a7, a8⟩ := LA4.out w4 (Mod.refl _ _)
  have HP := Lib.hid (PTA.out HFA.out w4 M4.out)
  go_wp2_with fail
  refine HP.out.mono ?_
  rintro e w5 ⟨ya, na, yc, rfl, hna, hoa, m5, -⟩
  have M5 := Lib.hid (M4.out.trans' m5)
  have LB5 : Hid (∀ w', Mod [] w5 w' → _) := Lib.hid (fun w' h => LB4.out w' (m5.trans' h))
  have LA5 : Hid (∀ w', Mod [] w5 w' → _) := Lib.hid (fun w' h => LA4.out w' (m5.trans' h))
  have OA5 := Lib.hid hoa
  have HNA := Lib.hid hna
  clear m5 hoa hna a0 a1 a2 a3 a4 a5 a6 a7 a8 HP LA4 LB4 D5
  obtain ⟨b0, b1, b2, b3, b4, b5, b6, b7, b8⟩ := LB5.out w5 (Mod.refl _ _)
  have HP := Lib.hid (PTB.out HFB.out w5 M5.out)
  go_wp2_with fail
  refine HP.out.mono ?_
  rintro e w6 ⟨yb, nb, ybc, rfl, hnb, hob, m6, -⟩
  have M6 := Lib.hid (M5.out.trans' m6)
  have LB6 : Hid (∀ w', Mod [] w6 w' → _) := Lib.hid (fun w' h => LB5.out w' (m6.trans' h))
  have LA6 : Hid (∀ w', Mod [] w6 w' → _) := Lib.hid (fun w' h => LA5.out w' (m6.trans' h))
  have OA6 := Lib.hid (OwnB.mod0 OA5.out m6)
  have OB6 := Lib.hid hob
  have HNB := Lib.hid hnb
  clear m6 hob hnb b0 b1 b2 b3 b4 b5 b6 b7 b8 HP LA5 LB5 OA5 PTA PTB
  obtain ⟨da, hda⟩ : ∃ x, a.d = x := ⟨_, rfl⟩
  obtain ⟨db, hdb⟩ : ∃ x, b.d = x := ⟨_, rfl⟩
  rw [hda] at HNA OA6 CKA NDA SNA SAB HSA ⊢
  rw [hdb] at HNB OB6 NDB SAB HSB ⊢
  clear hda hdb HSMA HSMB HFA HFB
  obtain ⟨ea, hea⟩ : ∃ x, checkE da = x := ⟨_, rfl⟩
  obtain ⟨eb, heb⟩ : ∃ x, checkE db = x := ⟨_, rfl⟩
  rw [hea] at CKA ⊢
  rw [heb]
  have HEAQ := Lib.hid hea
  have HEBQ := Lib.hid heb
  clear hea heb
  go_upto_region 5 with (fail)
  go_cut [63] from 39 to 64 (fun s wx => s = .bool false ∧ Mod [] w6 wx)
  case first =>
    by_cases hMa : MayM da
    case neg =>
      have DA : (ea == 0) = false := by rw [← HEAQ.out, checkE_no hMa]; rfl
      clear hMa HNA OA6 HNB OB6
      refine rest_start [] 25 #[false, false, false, false, false, false, false, false, false, false, false, false, false, false, false, false, false, false, false, false, false, false, false, false, false] rfl (by kernel_rfl) (by kernel_rfl) ?_
      intro w7 m7
      have M7 := Lib.hid (M6.out.trans' m7)
      have N7 := Lib.hid m7
      have LA7 : Hid (∀ w', Mod [] w7 w' → _) := Lib.hid (fun w' h => LA6.out w' (m7.trans' h))
      have LB7 : Hid (∀ w', Mod [] w7 w' → _) := Lib.hid (fun w' h => LB6.out w' (m7.trans' h))
      clear m7 M6 LA6 LB6
      refine rest_got (i := 0) (v := ?v1) rfl (by kernel_rfl) (by kernel_rfl) (by kernel_rfl) (fun _ _ _ h => h) (by rfl) ?y1 ?r1
      case y1 => (intro w9q hSwq; clear hSwq; go_simp; with_reducible rfl)
      try simp only [Act.put, List.setIfInBounds_toArray, List.set_cons_zero, List.set_cons_succ]
      refine rest_got (i := 1) (v := ?v2) rfl (by kernel_rfl) (by kernel_rfl) (by kernel_rfl) (fun _ _ _ h => h) (by rfl) ?y2 ?r2
      case y2 => (intro w9q hSwq; clear hSwq; go_simp; with_reducible rfl)
      try simp only [Act.put, List.setIfInBounds_toArray, List.set_cons_zero, List.set_cons_succ]
      refine rest_got (i := 2) (v := ?v3) rfl (by kernel_rfl) (by kernel_rfl) (by kernel_rfl) (fun _ _ _ h => h) (by rfl) ?y3 ?r3
      case y3 => ((intro w9' hm9'; obtain ⟨hc0', hc1', hc2', hc3', hc4', hc5', hc6', hc7', hc8'⟩ := LA7.out w9' hm9'; clear hm9'; go_simp; with_reducible rfl))
      try simp only [Act.put, List.setIfInBounds_toArray, List.set_cons_zero, List.set_cons_succ]
      refine rest_one (i := 3) (by kernel_rfl) rfl (by rfl) ?_
      have HX1 := Lib.hid (CKA.out w7 M7.out)
      go_wp2_with fail
      refine HX1.out.mono ?_
      rintro e w8 ⟨rfl, m8⟩
      go_wp2_with fail
      refine back_to (K1 := []) m8 (by simp) ?_
      have M8 := Lib.hid (M7.out.trans' m8)
      have N8 := Lib.hid (N7.out.trans' m8)
      have LA8 : Hid (∀ w', Mod [] w8 w' → _) := Lib.hid (fun w' h => LA7.out w' (m8.trans' h))
      have LB8 : Hid (∀ w', Mod [] w8 w' → _) := Lib.hid (fun w' h => LB7.out w' (m8.trans' h))
      clear m8 HX1 LA7 LB7 M7 N7
      refine rest_got (i := 4) (v := ?v4) rfl (by kernel_rfl) (by kernel_rfl) (by kernel_rfl) (fun _ _ _ h => h) (by rfl) ?y4 ?r4
      case y4 => (intro w9q hSwq; clear hSwq; go_simp; with_reducible rfl)
      try simp only [Act.put, List.setIfInBounds_toArray, List.set_cons_zero, List.set_cons_succ]
      refine rest_got (i := 5) (v := ?v5) rfl (by kernel_rfl) (by kernel_rfl) (by kernel_rfl) (fun _ _ _ h => h) (by rfl) ?y5 ?r5
      case y5 => (intro w9q hSwq; clear hSwq; go_simp; with_reducible rfl)
      try simp only [Act.put, List.setIfInBounds_toArray, List.set_cons_zero, List.set_cons_succ]
      refine rest_got (i := 6) (v := ?v6) rfl (by kernel_rfl) (by kernel_rfl) (by kernel_rfl) (fun _ _ _ h => h) (by rfl) ?y6 ?r6
      case y6 => (intro w9q hSwq; clear hSwq; go_simp; with_reducible rfl)
      try simp only [Act.put, List.setIfInBounds_toArray, List.set_cons_zero, List.set_cons_succ]
      refine rest_got (i := 7) (v := ?v7) rfl (by kernel_rfl) (by kernel_rfl) (by kernel_rfl) (fun _ _ _ h => h) (by rfl) ?y7 ?r7
      case y7 => (intro w9q hSwq; clear hSwq; go_simp; with_reducible rfl)
      try simp only [Act.put, List.setIfInBounds_toArray, List.set_cons_zero, List.set_cons_succ]
      refine rest_got (i := 8) (v := ?v8) rfl (by kernel_rfl) (by kernel_rfl) (by kernel_rfl) (fun _ _ _ h => h) (by rfl) ?y8 ?r8
      case y8 => (intro w9q hSwq; clear hSwq; go_simp; with_reducible rfl)
      try simp only [Act.put, List.setIfInBounds_toArray, List.set_cons_zero, List.set_cons_succ]
      refine rest_got (i := 9) (v := ?v9) rfl (by kernel_rfl) (by kernel_rfl) (by kernel_rfl) (fun _ _ _ h => h) (by rfl) ?y9 ?r9
      case y9 => (intro w9q hSwq; clear hSwq; go_simp; with_reducible rfl)
      try simp only [Act.put, List.setIfInBounds_toArray, List.set_cons_zero, List.set_cons_succ]
      refine rest_skip (i := 10) rfl (by kernel_rfl) (by kernel_rfl) (by kernel_rfl) (fun _ _ _ h => h) (by rfl) ?_
      try simp only [Act.put, List.setIfInBounds_toArray, List.set_cons_zero, List.set_cons_succ]
      refine rest_skip (i := 11) rfl (by kernel_rfl) (by kernel_rfl) (by kernel_rfl) (fun _ _ _ h => h) (by rfl) ?_
      try simp only [Act.put, List.setIfInBounds_toArray, List.set_cons_zero, List.set_cons_succ]
      refine rest_got (i := 12) (v := ?v10) rfl (by kernel_rfl) (by kernel_rfl) (by kernel_rfl) (fun _ _ _ h => h) (by rfl) ?y10 ?r10
      case y10 => (intro w9q hSwq; clear hSwq; go_simp; with_reducible rfl)
      try simp only [Act.put, List.setIfInBounds_toArray, List.set_cons_zero, List.set_cons_succ]
      refine rest_got (i := 13) (v := ?v11) rfl (by kernel_rfl) (by kernel_rfl) (by kernel_rfl) (fun _ _ _ h => h) (by rfl) ?y11 ?r11
      case y11 => (intro w9q hSwq; clear hSwq; go_simp; with_reducible rfl)
      try simp only [Act.put, List.setIfInBounds_toArray, List.set_cons_zero, List.set_cons_succ]
      refine rest_skip (i := 14) rfl (by kernel_rfl) (by kernel_rfl) (by kernel_rfl) (fun _ _ _ h => h) (by rfl) ?_
      try simp only [Act.put, List.setIfInBounds_toArray, List.set_cons_zero, List.set_cons_succ]
      refine rest_skip (i := 15) rfl (by kernel_rfl) (by kernel_rfl) (by kernel_rfl) (fun _ _ _ h => h) (by rfl) ?_
      try simp only [Act.put, List.setIfInBounds_toArray, List.set_cons_zero, List.set_cons_succ]
      refine rest_skip (i := 16) rfl (by kernel_rfl) (by kernel_rfl) (by kernel_rfl) (fun _ _ _ h => h) (by rfl) ?_
      try simp only [Act.put, List.setIfInBounds_toArray, List.set_cons_zero, List.set_cons_succ]
      refine rest_skip (i := 17) rfl (by kernel_rfl) (by kernel_rfl) (by kernel_rfl) (fun _ _ _ h => h) (by rfl) ?_
      try simp only [Act.put, List.setIfInBounds_toArray, List.set_cons_zero, List.set_cons_succ]
      refine rest_skip (i := 18) rfl (by kernel_rfl) (by kernel_rfl) (by kernel_rfl) (fun _ _ _ h => h) (by rfl) ?_
      try simp only [Act.put, List.setIfInBounds_toArray, List.set_cons_zero, List.set_cons_succ]
      refine rest_skip (i := 19) rfl (by kernel_rfl) (by kernel_rfl) (by kernel_rfl) (fun _ _ _ h => h) (by rfl) ?_
      try simp only [Act.put, List.setIfInBounds_toArray, List.set_cons_zero, List.set_cons_succ]
      refine rest_skip (i := 20) rfl (by kernel_rfl) (by kernel_rfl) (by kernel_rfl) (fun _ _ _ h => h) (by rfl) ?_
      try simp only [Act.put, List.setIfInBounds_toArray, List.set_cons_zero, List.set_cons_succ]
      refine rest_skip (i := 21) rfl (by kernel_rfl) (by kernel_rfl) (by kernel_rfl) (fun _ _ _ h => h) (by rfl) ?_
      try simp only [Act.put, List.setIfInBounds_toArray, List.set_cons_zero, List.set_cons_succ]
      refine rest_skip (i := 22) rfl (by kernel_rfl) (by kernel_rfl) (by kernel_rfl) (fun _ _ _ h => h) (by rfl) ?_
      try simp only [Act.put, List.setIfInBounds_toArray, List.set_cons_zero, List.set_cons_succ]
      refine rest_got (i := 23) (v := ?v12) rfl (by kernel_rfl) (by kernel_rfl) (by kernel_rfl) (fun _ _ _ h => h) (by rfl) ?y12 ?r12
      case y12 => (intro w9q hSwq; clear hSwq; go_simp; with_reducible rfl)
      try simp only [Act.put, List.setIfInBounds_toArray, List.set_cons_zero, List.set_cons_succ]
      refine rest_got (i := 24) (v := ?v13) rfl (by kernel_rfl) (by kernel_rfl) (by kernel_rfl) (fun _ _ _ h => h) (by rfl) ?y13 ?r13
      case y13 => (intro w9q hSwq; clear hSwq; go_simp; with_reducible rfl)
      try simp only [Act.put, List.setIfInBounds_toArray, List.set_cons_zero, List.set_cons_succ]
      refine rest_done (by kernel_rfl) ?_ _
      go_wp2_with fail
      go_meet
      exact ⟨rfl, N8.out⟩
    have DA : (ea == 0) = true := by rw [← HEAQ.out, show checkE da = 0 from if_pos hMa]; rfl
    by_cases hMb : MayM db
    case neg =>
      have DB : (eb == 0) = false := by rw [← HEBQ.out, checkE_no hMb]; rfl
      clear hMa hMb HNA OA6 HNB OB6
      refine rest_start [] 25 #[false, false, false, false, false, false, false, false, false, false, false, false, false, false, false, false, false, false, false, false, false, false, false, false, false] rfl (by kernel_rfl) (by kernel_rfl) ?_
      intro w7 m7
      have M7 := Lib.hid (M6.out.trans' m7)
      have N7 := Lib.hid m7
      have LA7 : Hid (∀ w', Mod [] w7 w' → _) := Lib.hid (fun w' h => LA6.out w' (m7.trans' h))
      have LB7 : Hid (∀ w', Mod [] w7 w' → _) := Lib.hid (fun w' h => LB6.out w' (m7.trans' h))
      clear m7 M6 LA6 LB6
      refine rest_got (i := 0) (v := ?v14) rfl (by kernel_rfl) (by kernel_rfl) (by kernel_rfl) (fun _ _ _ h => h) (by rfl) ?y14 ?r14
      case y14 => (intro w9q hSwq; clear hSwq; go_simp; with_reducible rfl)
      try simp only [Act.put, List.setIfInBounds_toArray, List.set_cons_zero, List.set_cons_succ]
      refine rest_got (i := 1) (v := ?v15) rfl (by kernel_rfl) (by kernel_rfl) (by kernel_rfl) (fun _ _ _ h => h) (by rfl) ?y15 ?r15
      case y15 => (intro w9q hSwq; clear hSwq; go_simp; with_reducible rfl)
      try simp only [Act.put, List.setIfInBounds_toArray, List.set_cons_zero, List.set_cons_succ]
      refine rest_got (i := 2) (v := ?v16) rfl (by kernel_rfl) (by kernel_rfl) (by kernel_rfl) (fun _ _ _ h => h) (by rfl) ?y16 ?r16
      case y16 => ((intro w9' hm9'; obtain ⟨hc0', hc1', hc2', hc3', hc4', hc5', hc6', hc7', hc8'⟩ := LA7.out w9' hm9'; clear hm9'; go_simp; with_reducible rfl))
      try simp only [Act.put, List.setIfInBounds_toArray, List.set_cons_zero, List.set_cons_succ]
      refine rest_one (i := 3) (by kernel_rfl) rfl (by rfl) ?_
      have HX1 := Lib.hid (CKA.out w7 M7.out)
      go_wp2_with fail
      refine HX1.out.mono ?_
      rintro e w8 ⟨rfl, m8⟩
      go_wp2_with fail
      refine back_to (K1 := []) m8 (by simp) ?_
      have M8 := Lib.hid (M7.out.trans' m8)
      have N8 := Lib.hid (N7.out.trans' m8)
      have LA8 : Hid (∀ w', Mod [] w8 w' → _) := Lib.hid (fun w' h => LA7.out w' (m8.trans' h))
      have LB8 : Hid (∀ w', Mod [] w8 w' → _) := Lib.hid (fun w' h => LB7.out w' (m8.trans' h))
      clear m8 HX1 LA7 LB7 M7 N7
      refine rest_got (i := 4) (v := ?v17) rfl (by kernel_rfl) (by kernel_rfl) (by kernel_rfl) (fun _ _ _ h => h) (by rfl) ?y17 ?r17
      case y17 => (intro w9q hSwq; clear hSwq; go_simp; with_reducible rfl)
      try simp only [Act.put, List.setIfInBounds_toArray, List.set_cons_zero, List.set_cons_succ]
      refine rest_got (i := 5) (v := ?v18) rfl (by kernel_rfl) (by kernel_rfl) (by kernel_rfl) (fun _ _ _ h => h) (by rfl) ?y18 ?r18
      case y18 => (intro w9q hSwq; clear hSwq; go_simp; with_reducible rfl)
      try simp only [Act.put, List.setIfInBounds_toArray, List.set_cons_zero, List.set_cons_succ]
      refine rest_got (i := 6) (v := ?v19) rfl (by kernel_rfl) (by kernel_rfl) (by kernel_rfl) (fun _ _ _ h => h) (by rfl) ?y19 ?r19
      case y19 => (intro w9q hSwq; clear hSwq; go_simp; with_reducible rfl)
      try simp only [Act.put, List.setIfInBounds_toArray, List.set_cons_zero, List.set_cons_succ]
      refine rest_got (i := 7) (v := ?v20) rfl (by kernel_rfl) (by kernel_rfl) (by kernel_rfl) (fun _ _ _ h => h) (by rfl) ?y20 ?r20
      case y20 => (intro w9q hSwq; clear hSwq; go_simp; with_reducible rfl)
      try simp only [Act.put, List.setIfInBounds_toArray, List.set_cons_zero, List.set_cons_succ]
      refine rest_got (i := 8) (v := ?v21) rfl (by kernel_rfl) (by kernel_rfl) (by kernel_rfl) (fun _ _ _ h => h) (by rfl) ?y21 ?r21
      case y21 => (intro w9q hSwq; clear hSwq; go_simp; with_reducible rfl)
      try simp only [Act.put, List.setIfInBounds_toArray, List.set_cons_zero, List.set_cons_succ]
      refine rest_got (i := 9) (v := ?v22) rfl (by kernel_rfl) (by kernel_rfl) (by kernel_rfl) (fun _ _ _ h => h) (by rfl) ?y22 ?r22
      case y22 => (intro w9q hSwq; clear hSwq; go_simp; with_reducible rfl)
      try simp only [Act.put, List.setIfInBounds_toArray, List.set_cons_zero, List.set_cons_succ]
      refine rest_got (i := 10) (v := ?v23) rfl (by kernel_rfl) (by kernel_rfl) (by kernel_rfl) (fun _ _ _ h => h) (by rfl) ?y23 ?r23
      case y23 => (intro w9q hSwq; clear hSwq; go_simp; with_reducible rfl)
      try simp only [Act.put, List.setIfInBounds_toArray, List.set_cons_zero, List.set_cons_succ]
      refine rest_got (i := 11) (v := ?v24) rfl (by kernel_rfl) (by kernel_rfl) (by kernel_rfl) (fun _ _ _ h => h) (by rfl) ?y24 ?r24
      case y24 => (intro w9q hSwq; clear hSwq; go_simp; with_reducible rfl)
      try simp only [Act.put, List.setIfInBounds_toArray, List.set_cons_zero, List.set_cons_succ]
      refine rest_got (i := 12) (v := ?v25) rfl (by kernel_rfl) (by kernel_rfl) (by kernel_rfl) (fun _ _ _ h => h) (by rfl) ?y25 ?r25
      case y25 => (intro w9q hSwq; clear hSwq; go_simp; with_reducible rfl)
      try simp only [Act.put, List.setIfInBounds_toArray, List.set_cons_zero, List.set_cons_succ]
      refine rest_got (i := 13) (v := ?v26) rfl (by kernel_rfl) (by kernel_rfl) (by kernel_rfl) (fun _ _ _ h => h) (by rfl) ?y26 ?r26
      case y26 => (intro w9q hSwq; clear hSwq; go_simp; with_reducible rfl)
      try simp only [Act.put, List.setIfInBounds_toArray, List.set_cons_zero, List.set_cons_succ]
      refine rest_skip (i := 14) rfl (by kernel_rfl) (by kernel_rfl) (by kernel_rfl) (fun _ _ _ h => h) (by rfl) ?_
      try simp only [Act.put, List.setIfInBounds_toArray, List.set_cons_zero, List.set_cons_succ]
      refine rest_skip (i := 15) rfl (by kernel_rfl) (by kernel_rfl) (by kernel_rfl) (fun _ _ _ h => h) (by rfl) ?_
      try simp only [Act.put, List.setIfInBounds_toArray, List.set_cons_zero, List.set_cons_succ]
      refine rest_skip (i := 16) rfl (by kernel_rfl) (by kernel_rfl) (by kernel_rfl) (fun _ _ _ h => h) (by rfl) ?_
      try simp only [Act.put, List.setIfInBounds_toArray, List.set_cons_zero, List.set_cons_succ]
      refine rest_skip (i := 17) rfl (by kernel_rfl) (by kernel_rfl) (by kernel_rfl) (fun _ _ _ h => h) (by rfl) ?_
      try simp only [Act.put, List.setIfInBounds_toArray, List.set_cons_zero, List.set_cons_succ]
      refine rest_skip (i := 18) rfl (by kernel_rfl) (by kernel_rfl) (by kernel_rfl) (fun _ _ _ h => h) (by rfl) ?_
      try simp only [Act.put, List.setIfInBounds_toArray, List.set_cons_zero, List.set_cons_succ]
      refine rest_skip (i := 19) rfl (by kernel_rfl) (by kernel_rfl) (by kernel_rfl) (fun _ _ _ h => h) (by rfl) ?_
      try simp only [Act.put, List.setIfInBounds_toArray, List.set_cons_zero, List.set_cons_succ]
      refine rest_skip (i := 20) rfl (by kernel_rfl) (by kernel_rfl) (by kernel_rfl) (fun _ _ _ h => h) (by rfl) ?_
      try simp only [Act.put, List.setIfInBounds_toArray, List.set_cons_zero, List.set_cons_succ]
      refine rest_skip (i := 21) rfl (by kernel_rfl) (by kernel_rfl) (by kernel_rfl) (fun _ _ _ h => h) (by rfl) ?_
      try simp only [Act.put, List.setIfInBounds_toArray, List.set_cons_zero, List.set_cons_succ]
      refine rest_skip (i := 22) rfl (by kernel_rfl) (by kernel_rfl) (by kernel_rfl) (fun _ _ _ h => h) (by rfl) ?_
      try simp only [Act.put, List.setIfInBounds_toArray, List.set_cons_zero, List.set_cons_succ]
      refine rest_got (i := 23) (v := ?v27) rfl (by kernel_rfl) (by kernel_rfl) (by kernel_rfl) (fun _ _ _ h => h) (by rfl) ?y27 ?r27
      case y27 => (intro w9q hSwq; clear hSwq; go_simp; with_reducible rfl)
      try simp only [Act.put, List.setIfInBounds_toArray, List.set_cons_zero, List.set_cons_succ]
      refine rest_got (i := 24) (v := ?v28) rfl (by kernel_rfl) (by kernel_rfl) (by kernel_rfl) (fun _ _ _ h => h) (by rfl) ?y28 ?r28
      case y28 => (intro w9q hSwq; clear hSwq; go_simp; with_reducible rfl)
      try simp only [Act.put, List.setIfInBounds_toArray, List.set_cons_zero, List.set_cons_succ]
      refine rest_done (by kernel_rfl) ?_ _
      go_wp2_with fail
      go_meet
      exact ⟨rfl, N8.out⟩
    have DB : (eb == 0) = true := by rw [← HEBQ.out, show checkE db = 0 from if_pos hMb]; rfl
    rw [if_pos hMa] at HNA OA6
    rw [if_pos hMb] at HNB OB6
    have hla : (msgB da).length < 18446744073709551616 := by have := HSA.out; rw [msgB_len]; omega
    have hlb : (msgB db).length < 18446744073709551616 := by have := HSB.out; rw [msgB_len]; omega
    have hinj : decide (msgB da = msgB db) = decide (da = db) := decide_eq_decide.2 (msgB_inj da db hMa NDA.out hla hMb NDB.out hlb)
    obtain ⟨qs, hqs⟩ : ∃ q, decide (da = db) = q := ⟨_, rfl⟩
    rw [hqs] at hinj SAB
    obtain ⟨lx, hlx⟩ : ∃ x, msgB da = x := ⟨_, rfl⟩
    obtain ⟨ly, hly⟩ : ∃ x, msgB db = x := ⟨_, rfl⟩
    rw [hlx] at HNA OA6 hinj
    rw [hly] at HNB OB6 hinj
    have DQ := Lib.hid hinj
    have ea := HNA.out
    have eb := HNB.out
    subst ea
    subst eb
    clear hMa hMb hinj hqs hlx hly hla hlb HNA HNB
    refine rest_start [] 25 #[false, false, false, false, false, false, false, false, false, false, false, false, false, false, false, false, false, false, false, false, false, false, false, false, false] rfl (by kernel_rfl) (by kernel_rfl) ?_
    intro w7 m7
    have M7 := Lib.hid (M6.out.trans' m7)
    have N7 := Lib.hid m7
    have LA7 : Hid (∀ w', Mod [] w7 w' → _) := Lib.hid (fun w' h => LA6.out w' (m7.trans' h))
    have LB7 : Hid (∀ w', Mod [] w7 w' → _) := Lib.hid (fun w' h => LB6.out w' (m7.trans' h))
    clear m7 M6 LA6 LB6
    refine rest_got (i := 0) (v := ?v29) rfl (by kernel_rfl) (by kernel_rfl) (by kernel_rfl) (fun _ _ _ h => h) (by rfl) ?y29 ?r29
    case y29 => (intro w9q hSwq; clear hSwq; go_simp; with_reducible rfl)
    try simp only [Act.put, List.setIfInBounds_toArray, List.set_cons_zero, List.set_cons_succ]
    refine rest_got (i := 1) (v := ?v30) rfl (by kernel_rfl) (by kernel_rfl) (by kernel_rfl) (fun _ _ _ h => h) (by rfl) ?y30 ?r30
    case y30 => (intro w9q hSwq; clear hSwq; go_simp; with_reducible rfl)
    try simp only [Act.put, List.setIfInBounds_toArray, List.set_cons_zero, List.set_cons_succ]
    refine rest_got (i := 2) (v := ?v31) rfl (by kernel_rfl) (by kernel_rfl) (by kernel_rfl) (fun _ _ _ h => h) (by rfl) ?y31 ?r31
    case y31 => ((intro w9' hm9'; obtain ⟨hc0', hc1', hc2', hc3', hc4', hc5', hc6', hc7', hc8'⟩ := LA7.out w9' hm9'; clear hm9'; go_simp; with_reducible rfl))
    try simp only [Act.put, List.setIfInBounds_toArray, List.set_cons_zero, List.set_cons_succ]
    refine rest_one (i := 3) (by kernel_rfl) rfl (by rfl) ?_
    have HX1 := Lib.hid (CKA.out w7 M7.out)
    go_wp2_with fail
    refine HX1.out.mono ?_
    rintro e w8 ⟨rfl, m8⟩
    go_wp2_with fail
    refine back_to (K1 := []) m8 (by simp) ?_
    have M8 := Lib.hid (M7.out.trans' m8)
    have N8 := Lib.hid (N7.out.trans' m8)
    have LA8 : Hid (∀ w', Mod [] w8 w' → _) := Lib.hid (fun w' h => LA7.out w' (m8.trans' h))
    have LB8 : Hid (∀ w', Mod [] w8 w' → _) := Lib.hid (fun w' h => LB7.out w' (m8.trans' h))
    clear m8 HX1 LA7 LB7 M7 N7
    have PX := Lib.hid ((OA6.out.sees).mod0 N8.out)
    have PY := Lib.hid ((OB6.out.sees).mod0 N8.out)
    refine rest_got (i := 4) (v := ?v32) rfl (by kernel_rfl) (by kernel_rfl) (by kernel_rfl) (fun _ _ _ h => h) (by rfl) ?y32 ?r32
    case y32 => (intro w9q hSwq; clear hSwq; go_simp; with_reducible rfl)
    try simp only [Act.put, List.setIfInBounds_toArray, List.set_cons_zero, List.set_cons_succ]
    refine rest_got (i := 5) (v := ?v33) rfl (by kernel_rfl) (by kernel_rfl) (by kernel_rfl) (fun _ _ _ h => h) (by rfl) ?y33 ?r33
    case y33 => (intro w9q hSwq; clear hSwq; go_simp; with_reducible rfl)
    try simp only [Act.put, List.setIfInBounds_toArray, List.set_cons_zero, List.set_cons_succ]
    refine rest_got (i := 6) (v := ?v34) rfl (by kernel_rfl) (by kernel_rfl) (by kernel_rfl) (fun _ _ _ h => h) (by rfl) ?y34 ?r34
    case y34 => (intro w9q hSwq; clear hSwq; go_simp; with_reducible rfl)
    try simp only [Act.put, List.setIfInBounds_toArray, List.set_cons_zero, List.set_cons_succ]
    refine rest_got (i := 7) (v := ?v35) rfl (by kernel_rfl) (by kernel_rfl) (by kernel_rfl) (fun _ _ _ h => h) (by rfl) ?y35 ?r35
    case y35 => (intro w9q hSwq; clear hSwq; go_simp; with_reducible rfl)
    try simp only [Act.put, List.setIfInBounds_toArray, List.set_cons_zero, List.set_cons_succ]
    refine rest_got (i := 8) (v := ?v36) rfl (by kernel_rfl) (by kernel_rfl) (by kernel_rfl) (fun _ _ _ h => h) (by rfl) ?y36 ?r36
    case y36 => (intro w9q hSwq; clear hSwq; go_simp; with_reducible rfl)
    try simp only [Act.put, List.setIfInBounds_toArray, List.set_cons_zero, List.set_cons_succ]
    refine rest_got (i := 9) (v := ?v37) rfl (by kernel_rfl) (by kernel_rfl) (by kernel_rfl) (fun _ _ _ h => h) (by rfl) ?y37 ?r37
    case y37 => (intro w9q hSwq; clear hSwq; go_simp; with_reducible rfl)
    try simp only [Act.put, List.setIfInBounds_toArray, List.set_cons_zero, List.set_cons_succ]
    refine rest_got (i := 10) (v := ?v38) rfl (by kernel_rfl) (by kernel_rfl) (by kernel_rfl) (fun _ _ _ h => h) (by rfl) ?y38 ?r38
    case y38 => (intro w9q hSwq; clear hSwq; go_simp; with_reducible rfl)
    try simp only [Act.put, List.setIfInBounds_toArray, List.set_cons_zero, List.set_cons_succ]
    refine rest_got (i := 11) (v := ?v39) rfl (by kernel_rfl) (by kernel_rfl) (by kernel_rfl) (fun _ _ _ h => h) (by rfl) ?y39 ?r39
    case y39 => (intro w9q hSwq; clear hSwq; go_simp; with_reducible rfl)
    try simp only [Act.put, List.setIfInBounds_toArray, List.set_cons_zero, List.set_cons_succ]
    refine rest_got (i := 12) (v := ?v40) rfl (by kernel_rfl) (by kernel_rfl) (by kernel_rfl) (fun _ _ _ h => h) (by rfl) ?y40 ?r40
    case y40 => (intro w9q hSwq; clear hSwq; go_simp; with_reducible rfl)
    try simp only [Act.put, List.setIfInBounds_toArray, List.set_cons_zero, List.set_cons_succ]
    refine rest_got (i := 13) (v := ?v41) rfl (by kernel_rfl) (by kernel_rfl) (by kernel_rfl) (fun _ _ _ h => h) (by rfl) ?y41 ?r41
    case y41 => (intro w9q hSwq; clear hSwq; go_simp; with_reducible rfl)
    try simp only [Act.put, List.setIfInBounds_toArray, List.set_cons_zero, List.set_cons_succ]
    refine rest_got (i := 14) (v := ?v42) rfl (by kernel_rfl) (by kernel_rfl) (by kernel_rfl) (fun _ _ _ h => h) (by rfl) ?y42 ?r42
    case y42 => (intro w9q hSwq; clear hSwq; go_simp; with_reducible rfl)
    try simp only [Act.put, List.setIfInBounds_toArray, List.set_cons_zero, List.set_cons_succ]
    refine rest_got (i := 15) (v := ?v43) rfl (by kernel_rfl) (by kernel_rfl) (by kernel_rfl) (fun _ _ _ h => h) (by rfl) ?y43 ?r43
    case y43 => ((intro w9' hm9'; refine Eq.trans (reads_str _ _ _ _ 5 Tryd.underlying27 Tryd.underlying5 Tryd.underlying9 _ _ _ _ rfl (by first | rfl | simp) PX.out (by first | (intro k _ hk; exact (List.not_mem_nil hk)) | simp) w9' hm9') ?_; with_reducible rfl))
    try simp only [Act.put, List.setIfInBounds_toArray, List.set_cons_zero, List.set_cons_succ]
    refine rest_got (i := 16) (v := ?v44) rfl (by kernel_rfl) (by kernel_rfl) (by kernel_rfl) (fun _ _ _ h => h) (by rfl) ?y44 ?r44
    case y44 => (intro w9q hSwq; clear hSwq; go_simp; with_reducible rfl)
    try simp only [Act.put, List.setIfInBounds_toArray, List.set_cons_zero, List.set_cons_succ]
    refine rest_got (i := 17) (v := ?v45) rfl (by kernel_rfl) (by kernel_rfl) (by kernel_rfl) (fun _ _ _ h => h) (by rfl) ?y45 ?r45
    case y45 => ((intro w9' hm9'; refine Eq.trans (reads_str _ _ _ _ 5 Tryd.underlying27 Tryd.underlying5 Tryd.underlying9 _ _ _ _ rfl (by first | rfl | simp) PY.out (by first | (intro k _ hk; exact (List.not_mem_nil hk)) | simp) w9' hm9') ?_; with_reducible rfl))
    try simp only [Act.put, List.setIfInBounds_toArray, List.set_cons_zero, List.set_cons_succ]
    refine rest_got (i := 18) (v := ?v46) rfl (by kernel_rfl) (by kernel_rfl) (by kernel_rfl) (fun _ _ _ h => h) (by rfl) ?y46 ?r46
    case y46 => ((intro w9' hm9'; refine Eq.trans (reads_eqs w9' _ _ _ _ _ rfl rfl) ?_; refine Eq.trans (congrArg (fun b => Result.ok (Next.value (Value.bool b)) w9') DQ.out) ?_; with_reducible rfl))
    try simp only [Act.put, List.setIfInBounds_toArray, List.set_cons_zero, List.set_cons_succ]
    refine rest_got (i := 19) (v := ?v47) rfl (by kernel_rfl) (by kernel_rfl) (by kernel_rfl) (fun _ _ _ h => h) (by rfl) ?y47 ?r47
    case y47 => ((intro w9' hm9'; obtain ⟨hc0', hc1', hc2', hc3', hc4', hc5', hc6', hc7', hc8'⟩ := LA8.out w9' hm9'; clear hm9'; go_simp; with_reducible rfl))
    try simp only [Act.put, List.setIfInBounds_toArray, List.set_cons_zero, List.set_cons_succ]
    refine rest_got (i := 20) (v := ?v48) rfl (by kernel_rfl) (by kernel_rfl) (by kernel_rfl) (fun _ _ _ h => h) (by rfl) ?y48 ?r48
    case y48 => ((intro w9' hm9'; obtain ⟨hc0', hc1', hc2', hc3', hc4', hc5', hc6', hc7', hc8'⟩ := LB8.out w9' hm9'; clear hm9'; go_simp; with_reducible rfl))
    try simp only [Act.put, List.setIfInBounds_toArray, List.set_cons_zero, List.set_cons_succ]
    refine rest_one (i := 21) (by kernel_rfl) rfl (by rfl) ?_
    have HX1 := Lib.hid (SAB.out w8 M8.out)
    go_wp2_with fail
    refine HX1.out.mono ?_
    rintro e w9 ⟨rfl, m9⟩
    go_wp2_with fail
    refine back_to (K1 := []) m9 (by simp) ?_
    have N9 := Lib.hid (N8.out.trans' m9)
    clear m9 HX1
    refine rest_got (i := 22) (v := ?v49) rfl (by kernel_rfl) (by kernel_rfl) (by kernel_rfl) (fun _ _ _ h => h) (by rfl) ?y49 ?r49
    case y49 => (intro w9q hSwq; clear hSwq; go_simp; with_reducible rfl)
    try simp only [Act.put, List.setIfInBounds_toArray, List.set_cons_zero, List.set_cons_succ]
    refine rest_got (i := 23) (v := ?v50) rfl (by kernel_rfl) (by kernel_rfl) (by kernel_rfl) (fun _ _ _ h => h) (by rfl) ?y50 ?r50
    case y50 => (intro w9q hSwq; clear hSwq; go_simp; with_reducible rfl)
    try simp only [Act.put, List.setIfInBounds_toArray, List.set_cons_zero, List.set_cons_succ]
    refine rest_got (i := 24) (v := ?v51) rfl (by kernel_rfl) (by kernel_rfl) (by kernel_rfl) (fun _ _ _ h => h) (by rfl) ?y51 ?r51
    case y51 => (intro w9q hSwq; clear hSwq; go_simp; with_reducible rfl)
    try simp only [Act.put, List.setIfInBounds_toArray, List.set_cons_zero, List.set_cons_succ]
    refine rest_done (by kernel_rfl) ?_ _
    go_wp2_with fail
    go_meet
    exact ⟨rfl, N9.out⟩
  case rest =>
  obtain ⟨rfl, m7⟩ := hcut
  rename World => w7
  have M7 := Lib.hid (M6.out.trans' m7)
  have LA7 : Hid (∀ w', Mod [] w7 w' → _) := Lib.hid (fun w' h => LA6.out w' (m7.trans' h))
  have OA7 := Lib.hid (OwnB.mod0 OA6.out m7)
  clear m7 M6 LA6 LB6 OA6 OB6
  by_cases hMa : MayM da
  case neg =>
    obtain rfl : ea = 1 := by rw [← HEAQ.out]; exact checkE_no hMa
    clear hMa HNA OA7 HNB
    have HC := Lib.hid (mtake_any xo xn xc xl w7 HXL.out hxc hxm (HX.out.mod0 M7.out) (HF.out.mod0 M7.out) (HT.out.mod0 M7.out))
    go_wp2_with fail
    refine HC.out.mono ?_
    rintro e w8 ⟨m2, rfl, hmd, nm2, wf2, mq⟩
    have M8 := Lib.hid (M7.out.trans' mq)
    have NM2 := Lib.hid nm2
    have WF2 := Lib.hid wf2
    have HMD := Lib.hid hmd
    clear hmd nm2 wf2 mq HC
    obtain ⟨k2, bn2, br2, f2, l2, c2, vo2, vl2, vc2, so2, bl2, sc2, po2, sl2, pc2, hv2, -⟩ := mshape m2
    have HV2 := Lib.hid hv2
    rw [hv2]
    clear hv2
    obtain ⟨tg, htg⟩ : ∃ x, (takeR xl).1 = x := ⟨_, rfl⟩
    have HTG := Lib.hid htg
    rw [htg]
    clear htg
    obtain ⟨wz, hwz, hbz, hmz⟩ : ∃ x, w8.alloc (.cells #[.int .u8 0, .int .u64 0, .int .i64 0, .int .u64 0, .int .u64 0, .int .u64 0, .slice none 0 0, .slice none 0 0, .slice none 0 0] 29) = x ∧ x.heap[w8.heap.size]? = some (.cells #[.int .u8 0, .int .u64 0, .int .i64 0, .int .u64 0, .int .u64 0, .int .u64 0, .slice none 0 0, .slice none 0 0, .slice none 0 0] 29 (0, 0)) ∧ Mod [] w8 x := ⟨_, rfl, heap_alloc_new w8 _, Mod.alloc _ _ _⟩
    have z0 := cell_of_block (i := 0) hbz
    have y0 := free_of_block (i := 0) hbz
    have z1 := cell_of_block (i := 1) hbz
    have y1 := free_of_block (i := 1) hbz
    have z2 := cell_of_block (i := 2) hbz
    have y2 := free_of_block (i := 2) hbz
    have z3 := cell_of_block (i := 3) hbz
    have y3 := free_of_block (i := 3) hbz
    have z4 := cell_of_block (i := 4) hbz
    have y4 := free_of_block (i := 4) hbz
    have z5 := cell_of_block (i := 5) hbz
    have y5 := free_of_block (i := 5) hbz
    have z6 := cell_of_block (i := 6) hbz
    have y6 := free_of_block (i := 6) hbz
    have z7 := cell_of_block (i := 7) hbz
    have y7 := free_of_block (i := 7) hbz
    have z8 := cell_of_block (i := 8) hbz
    have y8 := free_of_block (i := 8) hbz
    simp only [List.getElem?_toArray, List.getElem?_cons_succ, List.getElem?_cons_zero] at z0 z1 z2 z3 z4 z5 z6 z7 z8
    go_upto_region 12 with (fail)
    obtain ⟨w9, hw9⟩ : ∃ x, (((((((((wz.setCell ⟨w8.heap.size, 0, none⟩ (.int .u8 k2)).setCell ⟨w8.heap.size, 1, none⟩ (.int .u64 bn2)).setCell ⟨w8.heap.size, 2, none⟩ (.int .i64 br2)).setCell ⟨w8.heap.size, 3, none⟩ (.int .u64 f2)).setCell ⟨w8.heap.size, 4, none⟩ (.int .u64 l2)).setCell ⟨w8.heap.size, 5, none⟩ (.int .u64 c2)).setCell ⟨w8.heap.size, 6, none⟩ (.slice vo2 vl2 vc2)).setCell ⟨w8.heap.size, 7, none⟩ (.slice so2 bl2 sc2)).setCell ⟨w8.heap.size, 8, none⟩ (.slice po2 sl2 pc2)) = x := ⟨_, rfl⟩
    rw [hw9]
    have hbw9 : w9.heap[w8.heap.size]? = some (.cells #[.int .u8 k2, .int .u64 bn2, .int .i64 br2, .int .u64 f2, .int .u64 l2, .int .u64 c2, .slice vo2 vl2 vc2, .slice so2 bl2 sc2, .slice po2 sl2 pc2] 29 (0, 0)) := by
      rw [← hw9]
      have h := (heap_setCell_same (i := 8) (heap_setCell_same (i := 7) (heap_setCell_same (i := 6) (heap_setCell_same (i := 5) (heap_setCell_same (i := 4) (heap_setCell_same (i := 3) (heap_setCell_same (i := 2) (heap_setCell_same (i := 1) (heap_setCell_same (i := 0) hbz (.int .u8 k2)) (.int .u64 bn2)) (.int .i64 br2)) (.int .u64 f2)) (.int .u64 l2)) (.int .u64 c2)) (.slice vo2 vl2 vc2)) (.slice so2 bl2 sc2)) (.slice po2 sl2 pc2))
      simp only [List.setIfInBounds_toArray, List.set_cons_zero, List.set_cons_succ] at h
      exact h
    have mw9 : Mod [] w8 w9 := by
      rw [← hw9]
      exact hmz.trans (T := [w8.heap.size]) (((((((((Mod.setCell _ _ _ (by simp)).trans' (Mod.setCell _ _ _ (by simp))).trans' (Mod.setCell _ _ _ (by simp))).trans' (Mod.setCell _ _ _ (by simp))).trans' (Mod.setCell _ _ _ (by simp))).trans' (Mod.setCell _ _ _ (by simp))).trans' (Mod.setCell _ _ _ (by simp))).trans' (Mod.setCell _ _ _ (by simp))).trans' (Mod.setCell _ _ _ (by simp))) (by simp)
    clear z0 z1 z2 z3 z4 z5 z6 z7 z8 y0 y1 y2 y3 y4 y5 y6 y7 y8 hbz hmz hwz hw9
    have M9 := Lib.hid (M8.out.trans' mw9)
    have NM3 := Lib.hid (NM2.out.mod0 mw9)
    obtain ⟨d0, d1, d2, d3, d4, d5, d6, d7, d8⟩ := box9 hbw9 w9 (Mod.refl _ _)
    clear mw9 hbw9 NM2
    by_cases hg : tg = 0
    case neg =>
      have Dg : (tg != 0) = true := by simpa using hg
      have S6 : Hid (∀ w', Mod [] w9 w' → Calls Tryd.prog 22 #[msgV m2, msgV (mz 0)] w' fun e w3 => e = .returned (.bool true) ∧ Mod [] w' w3) := Lib.hid (fun w' m => by
        have h := msame_any m2 (mz 0) w' (NM3.out.sees.mod0 m) ((NewM.mz 0 w' 0).sees) WF2.out wf_mz
        have hd : m2.d = (mz 0).d := by
          rw [HMD.out]
          exact takeR_err xl (by rw [HTG.out]; exact hg)
        rwa [decide_eq_true hd] at h)
      rw [HV2.out] at S6
      have S7 := Lib.hid (S6.out w9 (Mod.refl _ _))
      clear hg
      go_wp2_with fail
      refine S7.out.mono ?_
      rintro e w10 ⟨rfl, mr⟩
      have M10 := Lib.hid (M9.out.trans' mr)
      clear mr S7 S6
      have HW := Lib.hid (WK.out w10 M10.out)
      go_wp2_with fail
      refine HW.out.mono ?_
      rintro e wk ⟨rfl, mk⟩
      have MK := Lib.hid (M10.out.trans' mk)
      clear mk HW
      go_wp2_with fail
      go_ret
      exact ⟨rfl, MK.out⟩
    subst hg
    have hrd := takeR_read xl m2.d (by rw [← HTG.out, HMD.out])
    obtain ⟨hr1, hr2, hr3⟩ := hrd
    have hsm2 := small_of m2 hr2 (by rw [← hr1, HXL.out]; exact h5')
    have HP := Lib.hid (mput_any m2 w9 NM3.out.sees WF2.out hsm2 (HF.out.mod0 M9.out) (HT.out.mod0 M9.out))
    rw [HV2.out] at HP
    have HM2 := Lib.hid hr2
    have HR1 := Lib.hid hr1
    clear hr1 hr2 hr3 hsm2
    go_wp2_with fail
    refine HP.out.mono ?_
    rintro e w10 ⟨zo, zn, zc, rfl, hzn, hzo, mz2, -⟩
    rw [if_pos HM2.out, ← HR1.out] at hzn hzo
    have HE2 : Hid (checkE m2.d = 0) := Lib.hid (if_pos HM2.out)
    rw [HE2.out]
    have M10 := Lib.hid (M9.out.trans' mz2)
    have e1 : xl.length = xn := HXL.out
    subst e1
    subst hzn
    have cv1 := str_run (c := zc) hzo.sees
    have cv2 := str_run (c := xc) (HX.out.mod0 M10.out)
    have DE : (xl == xl) = true := by simp
    clear mz2 hzo HP d0 d1 d2 d3 d4 d5 d6 d7 d8
    have HW := Lib.hid (WK.out w10 M10.out)
    go_wp2_with fail
    refine HW.out.mono ?_
    rintro e wk ⟨rfl, mk⟩
    have MK := Lib.hid (M10.out.trans' mk)
    clear mk HW
    go_wp2_with fail
    go_ret
    exact ⟨rfl, MK.out⟩
  obtain rfl : ea = 0 := by rw [← HEAQ.out]; exact if_pos hMa
  rw [if_pos hMa] at HNA OA7
  have hla : (msgB da).length < 18446744073709551616 := by have := HSA.out; rw [msgB_len]; omega
  have HTA : Hid (takeR (msgB da) = (0, da)) := Lib.hid (takeR_write da hMa NDA.out hla)
  have hca := own_max OA7.out
  have HC := Lib.hid (mtake_any ya na yc (msgB da) w7 HNA.out (by rw [← HNA.out]; exact hca.1) hca.2 OA7.out.sees (HF.out.mod0 M7.out) (HT.out.mod0 M7.out))
  clear hMa hla HNB
  go_wp2_with fail
  refine HC.out.mono ?_
  rintro e w8 ⟨m3, rfl, hmd, nm3, wf3, m8⟩
  rw [HTA.out] at hmd ⊢
  dsimp only at hmd ⊢
  have M8 := Lib.hid (M7.out.trans' m8)
  have LA8 : Hid (∀ w', Mod [] w8 w' → _) := Lib.hid (fun w' h => LA7.out w' (m8.trans' h))
  have S3 : Hid (∀ w', Mod [] w8 w' → Calls Tryd.prog 22 #[msgV m3, .agg #[.int .u8 k, .int .u64 bn, .int .i64 br, .int .u64 f, .int .u64 l, .int .u64 c, .slice vo vl vc, .slice so bl sc, .slice po sl pc]] w' fun e w3 => e = .returned (.bool true) ∧ Mod [] w' w3) := Lib.hid (fun w' m => SNA.out m3 w' hmd (M8.out.trans' m) (nm3.sees.mod0 m) wf3)
  clear hmd nm3 wf3 m8 HC OA7 LA7 HNA
  obtain ⟨k3, bn3, br3, f3, l3, c3, vo3, vl3, vc3, so3, bl3, sc3, po3, sl3, pc3, hv3, -⟩ := mshape m3
  rw [hv3] at S3 ⊢
  clear hv3
  obtain ⟨wz, hwz, hbz, hmz⟩ : ∃ x, w8.alloc (.cells #[.int .u8 0, .int .u64 0, .int .i64 0, .int .u64 0, .int .u64 0, .int .u64 0, .slice none 0 0, .slice none 0 0, .slice none 0 0] 29) = x ∧ x.heap[w8.heap.size]? = some (.cells #[.int .u8 0, .int .u64 0, .int .i64 0, .int .u64 0, .int .u64 0, .int .u64 0, .slice none 0 0, .slice none 0 0, .slice none 0 0] 29 (0, 0)) ∧ Mod [] w8 x := ⟨_, rfl, heap_alloc_new w8 _, Mod.alloc _ _ _⟩
  have z0 := cell_of_block (i := 0) hbz
  have y0 := free_of_block (i := 0) hbz
  have z1 := cell_of_block (i := 1) hbz
  have y1 := free_of_block (i := 1) hbz
  have z2 := cell_of_block (i := 2) hbz
  have y2 := free_of_block (i := 2) hbz
  have z3 := cell_of_block (i := 3) hbz
  have y3 := free_of_block (i := 3) hbz
  have z4 := cell_of_block (i := 4) hbz
  have y4 := free_of_block (i := 4) hbz
  have z5 := cell_of_block (i := 5) hbz
  have y5 := free_of_block (i := 5) hbz
  have z6 := cell_of_block (i := 6) hbz
  have y6 := free_of_block (i := 6) hbz
  have z7 := cell_of_block (i := 7) hbz
  have y7 := free_of_block (i := 7) hbz
  have z8 := cell_of_block (i := 8) hbz
  have y8 := free_of_block (i := 8) hbz
  simp only [List.getElem?_toArray, List.getElem?_cons_succ, List.getElem?_cons_zero] at z0 z1 z2 z3 z4 z5 z6 z7 z8
  go_upto_region 9 with (fail)
  obtain ⟨w9, hw9⟩ : ∃ x, (((((((((wz.setCell ⟨w8.heap.size, 0, none⟩ (.int .u8 k3)).setCell ⟨w8.heap.size, 1, none⟩ (.int .u64 bn3)).setCell ⟨w8.heap.size, 2, none⟩ (.int .i64 br3)).setCell ⟨w8.heap.size, 3, none⟩ (.int .u64 f3)).setCell ⟨w8.heap.size, 4, none⟩ (.int .u64 l3)).setCell ⟨w8.heap.size, 5, none⟩ (.int .u64 c3)).setCell ⟨w8.heap.size, 6, none⟩ (.slice vo3 vl3 vc3)).setCell ⟨w8.heap.size, 7, none⟩ (.slice so3 bl3 sc3)).setCell ⟨w8.heap.size, 8, none⟩ (.slice po3 sl3 pc3)) = x := ⟨_, rfl⟩
  rw [hw9]
  have hbw9 : w9.heap[w8.heap.size]? = some (.cells #[.int .u8 k3, .int .u64 bn3, .int .i64 br3, .int .u64 f3, .int .u64 l3, .int .u64 c3, .slice vo3 vl3 vc3, .slice so3 bl3 sc3, .slice po3 sl3 pc3] 29 (0, 0)) := by
    rw [← hw9]
    have h := (heap_setCell_same (i := 8) (heap_setCell_same (i := 7) (heap_setCell_same (i := 6) (heap_setCell_same (i := 5) (heap_setCell_same (i := 4) (heap_setCell_same (i := 3) (heap_setCell_same (i := 2) (heap_setCell_same (i := 1) (heap_setCell_same (i := 0) hbz (.int .u8 k3)) (.int .u64 bn3)) (.int .i64 br3)) (.int .u64 f3)) (.int .u64 l3)) (.int .u64 c3)) (.slice vo3 vl3 vc3)) (.slice so3 bl3 sc3)) (.slice po3 sl3 pc3))
    simp only [List.setIfInBounds_toArray, List.set_cons_zero, List.set_cons_succ] at h
    exact h
  have mw9 : Mod [] w8 w9 := by
    rw [← hw9]
    exact hmz.trans (T := [w8.heap.size]) (((((((((Mod.setCell _ _ _ (by simp)).trans' (Mod.setCell _ _ _ (by simp))).trans' (Mod.setCell _ _ _ (by simp))).trans' (Mod.setCell _ _ _ (by simp))).trans' (Mod.setCell _ _ _ (by simp))).trans' (Mod.setCell _ _ _ (by simp))).trans' (Mod.setCell _ _ _ (by simp))).trans' (Mod.setCell _ _ _ (by simp))).trans' (Mod.setCell _ _ _ (by simp))) (by simp)
  clear z0 z1 z2 z3 z4 z5 z6 z7 z8 y0 y1 y2 y3 y4 y5 y6 y7 y8 hbz hmz hwz hw9
  have M9 := Lib.hid (M8.out.trans' mw9)
  have S4 := Lib.hid (S3.out w9 mw9)
  obtain ⟨d0, d1, d2, d3, d4, d5, d6, d7, d8⟩ := box9 hbw9 w9 (Mod.refl _ _)
  obtain ⟨e0, e1, e2, e3, e4, e5, e6, e7, e8⟩ := LA8.out w9 mw9
  clear mw9 hbw9 S3 LA8
  go_wp2_with fail
  refine S4.out.mono ?_
  rintro e w10 ⟨rfl, m10⟩
  have M10 := Lib.hid (M9.out.trans' m10)
  clear m10 S4 d0 d1 d2 d3 d4 d5 d6 d7 d8 e0 e1 e2 e3 e4 e5 e6 e7 e8
  have HC := Lib.hid (mtake_any xo xn xc xl w10 HXL.out hxc hxm (HX.out.mod0 M10.out) (HF.out.mod0 M10.out) (HT.out.mod0 M10.out))
  go_wp2_with fail
  refine HC.out.mono ?_
  rintro e w11 ⟨m2, rfl, hmd, nm2, wf2, mq⟩
  have M11 := Lib.hid (M10.out.trans' mq)
  have NM2 := Lib.hid nm2
  have WF2 := Lib.hid wf2
  have HMD := Lib.hid hmd
  clear hmd nm2 wf2 mq HC
  obtain ⟨k2, bn2, br2, f2, l2, c2, vo2, vl2, vc2, so2, bl2, sc2, po2, sl2, pc2, hv2, -⟩ := mshape m2
  have HV2 := Lib.hid hv2
  rw [hv2]
  clear hv2
  obtain ⟨tg, htg⟩ : ∃ x, (takeR xl).1 = x := ⟨_, rfl⟩
  have HTG := Lib.hid htg
  rw [htg]
  clear htg
  obtain ⟨wz, hwz, hbz, hmz⟩ : ∃ x, w11.alloc (.cells #[.int .u8 0, .int .u64 0, .int .i64 0, .int .u64 0, .int .u64 0, .int .u64 0, .slice none 0 0, .slice none 0 0, .slice none 0 0] 29) = x ∧ x.heap[w11.heap.size]? = some (.cells #[.int .u8 0, .int .u64 0, .int .i64 0, .int .u64 0, .int .u64 0, .int .u64 0, .slice none 0 0, .slice none 0 0, .slice none 0 0] 29 (0, 0)) ∧ Mod [] w11 x := ⟨_, rfl, heap_alloc_new w11 _, Mod.alloc _ _ _⟩
  have z0 := cell_of_block (i := 0) hbz
  have y0 := free_of_block (i := 0) hbz
  have z1 := cell_of_block (i := 1) hbz
  have y1 := free_of_block (i := 1) hbz
  have z2 := cell_of_block (i := 2) hbz
  have y2 := free_of_block (i := 2) hbz
  have z3 := cell_of_block (i := 3) hbz
  have y3 := free_of_block (i := 3) hbz
  have z4 := cell_of_block (i := 4) hbz
  have y4 := free_of_block (i := 4) hbz
  have z5 := cell_of_block (i := 5) hbz
  have y5 := free_of_block (i := 5) hbz
  have z6 := cell_of_block (i := 6) hbz
  have y6 := free_of_block (i := 6) hbz
  have z7 := cell_of_block (i := 7) hbz
  have y7 := free_of_block (i := 7) hbz
  have z8 := cell_of_block (i := 8) hbz
  have y8 := free_of_block (i := 8) hbz
  simp only [List.getElem?_toArray, List.getElem?_cons_succ, List.getElem?_cons_zero] at z0 z1 z2 z3 z4 z5 z6 z7 z8
  go_upto_region 12 with (fail)
  obtain ⟨w12, hw12⟩ : ∃ x, (((((((((wz.setCell ⟨w11.heap.size, 0, none⟩ (.int .u8 k2)).setCell ⟨w11.heap.size, 1, none⟩ (.int .u64 bn2)).setCell ⟨w11.heap.size, 2, none⟩ (.int .i64 br2)).setCell ⟨w11.heap.size, 3, none⟩ (.int .u64 f2)).setCell ⟨w11.heap.size, 4, none⟩ (.int .u64 l2)).setCell ⟨w11.heap.size, 5, none⟩ (.int .u64 c2)).setCell ⟨w11.heap.size, 6, none⟩ (.slice vo2 vl2 vc2)).setCell ⟨w11.heap.size, 7, none⟩ (.slice so2 bl2 sc2)).setCell ⟨w11.heap.size, 8, none⟩ (.slice po2 sl2 pc2)) = x := ⟨_, rfl⟩
  rw [hw12]
  have hbw12 : w12.heap[w11.heap.size]? = some (.cells #[.int .u8 k2, .int .u64 bn2, .int .i64 br2, .int .u64 f2, .int .u64 l2, .int .u64 c2, .slice vo2 vl2 vc2, .slice so2 bl2 sc2, .slice po2 sl2 pc2] 29 (0, 0)) := by
    rw [← hw12]
    have h := (heap_setCell_same (i := 8) (heap_setCell_same (i := 7) (heap_setCell_same (i := 6) (heap_setCell_same (i := 5) (heap_setCell_same (i := 4) (heap_setCell_same (i := 3) (heap_setCell_same (i := 2) (heap_setCell_same (i := 1) (heap_setCell_same (i := 0) hbz (.int .u8 k2)) (.int .u64 bn2)) (.int .i64 br2)) (.int .u64 f2)) (.int .u64 l2)) (.int .u64 c2)) (.slice vo2 vl2 vc2)) (.slice so2 bl2 sc2)) (.slice po2 sl2 pc2))
    simp only [List.setIfInBounds_toArray, List.set_cons_zero, List.set_cons_succ] at h
    exact h
  have mw12 : Mod [] w11 w12 := by
    rw [← hw12]
    exact hmz.trans (T := [w11.heap.size]) (((((((((Mod.setCell _ _ _ (by simp)).trans' (Mod.setCell _ _ _ (by simp))).trans' (Mod.setCell _ _ _ (by simp))).trans' (Mod.setCell _ _ _ (by simp))).trans' (Mod.setCell _ _ _ (by simp))).trans' (Mod.setCell _ _ _ (by simp))).trans' (Mod.setCell _ _ _ (by simp))).trans' (Mod.setCell _ _ _ (by simp))).trans' (Mod.setCell _ _ _ (by simp))) (by simp)
  clear z0 z1 z2 z3 z4 z5 z6 z7 z8 y0 y1 y2 y3 y4 y5 y6 y7 y8 hbz hmz hwz hw12
  have M12 := Lib.hid (M11.out.trans' mw12)
  have NM3 := Lib.hid (NM2.out.mod0 mw12)
  obtain ⟨d0, d1, d2, d3, d4, d5, d6, d7, d8⟩ := box9 hbw12 w12 (Mod.refl _ _)
  clear mw12 hbw12 NM2
  by_cases hg : tg = 0
  case neg =>
    have Dg : (tg != 0) = true := by simpa using hg
    have S6 : Hid (∀ w', Mod [] w12 w' → Calls Tryd.prog 22 #[msgV m2, msgV (mz 0)] w' fun e w3 => e = .returned (.bool true) ∧ Mod [] w' w3) := Lib.hid (fun w' m => by
      have h := msame_any m2 (mz 0) w' (NM3.out.sees.mod0 m) ((NewM.mz 0 w' 0).sees) WF2.out wf_mz
      have hd : m2.d = (mz 0).d := by
        rw [HMD.out]
        exact takeR_err xl (by rw [HTG.out]; exact hg)
      rwa [decide_eq_true hd] at h)
    rw [HV2.out] at S6
    have S7 := Lib.hid (S6.out w12 (Mod.refl _ _))
    clear hg
    go_wp2_with fail
    refine S7.out.mono ?_
    rintro e w13 ⟨rfl, mr⟩
    have M13 := Lib.hid (M12.out.trans' mr)
    clear mr S7 S6
    have HW := Lib.hid (WK.out w13 M13.out)
    go_wp2_with fail
    refine HW.out.mono ?_
    rintro e wk ⟨rfl, mk⟩
    have MK := Lib.hid (M13.out.trans' mk)
    clear mk HW
    go_wp2_with fail
    go_ret
    exact ⟨rfl, MK.out⟩
  subst hg
  have hrd := takeR_read xl m2.d (by rw [← HTG.out, HMD.out])
  obtain ⟨hr1, hr2, hr3⟩ := hrd
  have hsm2 := small_of m2 hr2 (by rw [← hr1, HXL.out]; exact h5')
  have HP := Lib.hid (mput_any m2 w12 NM3.out.sees WF2.out hsm2 (HF.out.mod0 M12.out) (HT.out.mod0 M12.out))
  rw [HV2.out] at HP
  have HM2 := Lib.hid hr2
  have HR1 := Lib.hid hr1
  clear hr1 hr2 hr3 hsm2
  go_wp2_with fail
  refine HP.out.mono ?_
  rintro e w13 ⟨zo, zn, zc, rfl, hzn, hzo, mz2, -⟩
  rw [if_pos HM2.out, ← HR1.out] at hzn hzo
  have HE2 : Hid (checkE m2.d = 0) := Lib.hid (if_pos HM2.out)
  rw [HE2.out]
  have M13 := Lib.hid (M12.out.trans' mz2)
  have e1 : xl.length = xn := HXL.out
  subst e1
  subst hzn
  have cv1 := str_run (c := zc) hzo.sees
  have cv2 := str_run (c := xc) (HX.out.mod0 M13.out)
  have DE : (xl == xl) = true := by simp
  clear mz2 hzo HP d0 d1 d2 d3 d4 d5 d6 d7 d8
  have HW := Lib.hid (WK.out w13 M13.out)
  go_wp2_with fail
  refine HW.out.mono ?_
  rintro e wk ⟨rfl, mk⟩
  have MK := Lib.hid (M13.out.trans' mk)
  clear mk HW
  go_wp2_with fail
  go_ret
  exact ⟨rfl, MK.out⟩
end Go.Proofs.YtekdnljincbghaaDoor
