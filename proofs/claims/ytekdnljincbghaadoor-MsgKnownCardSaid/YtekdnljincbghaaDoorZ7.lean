/- Texts put together (7 of 7): MsgSame. -/
import Derived.Test.YtekdnljincbghaaDoorZ5
import Derived.Test.YtekdnljincbghaaDoorZ6
/- The walk of quoratelaw17.MsgSame. -/
namespace Go.Proofs.YtekdnljincbghaaDoor
open Go Go.RowKit Go.Lib

theorem mshape (m : Mm) : ∃ (k bn br f l c : Int) (vo : Option Addr) (vl vc : Nat) (so : Option Addr) (bl sc : Nat) (po : Option Addr) (sl pc : Nat), msgV m = .agg #[.int .u8 k, .int .u64 bn, .int .i64 br, .int .u64 f, .int .u64 l, .int .u64 c, .slice vo vl vc, .slice so bl sc, .slice po sl pc] ∧ refV m = .agg #[.int .i64 k, .int .u64 bn, .int .i64 br, .int .u64 f, .int .u64 l, .int .u64 c, .slice vo vl vc, .slice so bl sc, .slice po sl pc] := ⟨_, _, _, _, _, _, _, _, _, _, _, _, _, _, _, rfl, rfl⟩
/-- Cells of a block, in each world behind. -/
theorem box9 {w : World} {b : Nat} {x0 x1 x2 x3 x4 x5 x6 x7 x8 : Value} {t : TypeId} {z : Nat × Nat} (h : w.heap[b]? = some (.cells #[x0, x1, x2, x3, x4, x5, x6, x7, x8] t z)) : ∀ w', Mod [] w w' →
    w'.cell? ⟨b, 0, none⟩ = some x0 ∧ w'.cell? ⟨b, 1, none⟩ = some x1 ∧ w'.cell? ⟨b, 2, none⟩ = some x2 ∧ w'.cell? ⟨b, 3, none⟩ = some x3 ∧ w'.cell? ⟨b, 4, none⟩ = some x4 ∧ w'.cell? ⟨b, 5, none⟩ = some x5 ∧ w'.cell? ⟨b, 6, none⟩ = some x6 ∧ w'.cell? ⟨b, 7, none⟩ = some x7 ∧ w'.cell? ⟨b, 8, none⟩ = some x8 := fun w' m => by
  have h2 := m.get h List.not_mem_nil
  exact ⟨cell_of_block h2, cell_of_block h2, cell_of_block h2, cell_of_block h2, cell_of_block h2, cell_of_block h2, cell_of_block h2, cell_of_block h2, cell_of_block h2⟩

set_option maxRecDepth 100000 in
set_option maxHeartbeats 16000000 in
theorem msgSame_any (a b : Mm) (w : World) (ha : SeesM w a) (hb : SeesM w b) (wa : WfM a) (wb : WfM b) (hf : Flds w) (hT : TableAt w T0) :
    Calls Tryd.prog 6 #[msgV a, msgV b] w fun e w' => e = .returned (.bool true) ∧ Mod [] w w' := by
  obtain ⟨k, bn, br, f, l, c, vo, vl, vc, so, bl, sc, po, sl, pc, hva, hra⟩ := mshape a
  obtain ⟨k', bn', br', f', l', c', vo', vl', vc', so', bl', sc', po', sl', pc', hvb, hrb⟩ := mshape b
  have GA : Hid (∀ w', Mod [] w w' → Calls Tryd.prog 10 #[msgV a] w' fun e w'' => GreatR a e ∧ Mod [] w' w'') := Lib.hid (fun w' m => great17_any a w' (ha.mod0 m) wa)
  have GB : Hid (∀ w', Mod [] w w' → Calls Tryd.prog 10 #[msgV b] w' fun e w'' => GreatR b e ∧ Mod [] w' w'') := Lib.hid (fun w' m => great17_any b w' (hb.mod0 m) wb)
  have WK : Hid (∀ w', Mod [] w w' → Calls Tryd.prog 11 #[] w' fun e w'' => e = .returned (.bool true) ∧ Mod [] w' w'') := Lib.hid (fun w' m => wakes17_any w' (hf.mod0 m) (hT.mod0 m))
  have OFA : Hid (∀ w', Mod [] w w' → Calls Tryd.prog 16 #[msgV a] w' fun e w'' => e = .returned (refV a) ∧ Mod [] w' w'') := Lib.hid (fun w' m => of17_any a w' wa.h.1)
  have OFB : Hid (∀ w', Mod [] w w' → Calls Tryd.prog 16 #[msgV b] w' fun e w'' => e = .returned (refV b) ∧ Mod [] w' w'') := Lib.hid (fun w' m => of17_any b w' wb.h.1)
  have RS : Hid (∀ w', Mod [] w w' → Calls Tryd.prog 15 #[refV a, refV b] w' fun e w'' => e = .returned (.bool (decide (a.d = b.d))) ∧ Mod [] w' w'') := Lib.hid (fun w' m => rsame_any a b w' (ha.mod0 m) (hb.mod0 m) ⟨wa.vlen, wa.blen⟩ ⟨wb.vlen, wb.blen⟩)
  have SAB : Hid (∀ w', Mod [] w w' → Calls Tryd.prog 22 #[msgV a, msgV b] w' fun e w'' => e = .returned (.bool (decide (a.d = b.d))) ∧ Mod [] w' w'') := Lib.hid (fun w' m => msame_any a b w' (ha.mod0 m) (hb.mod0 m) wa wb)
  have SBA : Hid (∀ w', Mod [] w w' → Calls Tryd.prog 22 #[msgV b, msgV a] w' fun e w'' => e = .returned (.bool (decide (a.d = b.d))) ∧ Mod [] w' w'') := Lib.hid (fun w' m => by
    have h := msame_any b a w' (hb.mod0 m) (ha.mod0 m) wb wa
    have e : decide (b.d = a.d) = decide (a.d = b.d) := by
      by_cases h : a.d = b.d
      · rw [decide_eq_true h, decide_eq_true h.symm]
      · rw [decide_eq_false h, decide_eq_false (fun h2 => h h2.symm)]
    rwa [e] at h)
  have OWA : Hid (FineM a → ∀ w', Mod [] w w' → Calls Tryd.prog 12 #[msgV a] w' fun e w'' => ∃ n, e = .returned (msgV n) ∧ n.d = a.d ∧ NewM w'.heap.size w'' n ∧ Mod [] w' w'') := Lib.hid (fun hF w' m => own17_any a w' (ha.mod0 m) wa hF.small)
  have OWB : Hid (FineM b → ∀ w', Mod [] w w' → Calls Tryd.prog 12 #[msgV b] w' fun e w'' => ∃ n, e = .returned (msgV n) ∧ n.d = b.d ∧ NewM w'.heap.size w'' n ∧ Mod [] w' w'') := Lib.hid (fun hF w' m => own17_any b w' (hb.mod0 m) wb hF.small)
  have SNA : Hid (∀ (n : Mm) w' w'', n.d = a.d → Mod [] w w' → Mod [] w' w'' → NewM w'.heap.size w'' n → Calls Tryd.prog 22 #[msgV n, msgV a] w'' fun e w3 => e = .returned (.bool true) ∧ Mod [] w'' w3) := Lib.hid (fun n w' w'' hd m m2 nm => by
    have h := msame_any n a w'' nm.sees (ha.mod0 (m.trans' m2)) (nm.wf (by rw [hd]; exact ⟨wa.h, fun v hv => by obtain ⟨x, hx, rfl⟩ := List.mem_map.1 hv; exact (wa.votes x hx).1⟩)) wa
    rwa [decide_eq_true hd] at h)
  have SNB : Hid (∀ (n : Mm) w' w'', n.d = b.d → Mod [] w w' → Mod [] w' w'' → NewM w'.heap.size w'' n → Calls Tryd.prog 22 #[msgV n, msgV b] w'' fun e w3 => e = .returned (.bool true) ∧ Mod [] w'' w3) := Lib.hid (fun n w' w'' hd m m2 nm => by
    have h := msame_any n b w'' nm.sees (hb.mod0 (m.trans' m2)) (nm.wf (by rw [hd]; exact ⟨wb.h, fun v hv => by obtain ⟨x, hx, rfl⟩ := List.mem_map.1 hv; exact (wb.votes x hx).1⟩)) wb
    rwa [decide_eq_true hd] at h)
  obtain ⟨q, hq⟩ : ∃ q, decide (a.d = b.d) = q := ⟨_, rfl⟩
  rw [hq] at RS SAB SBA
  rw [hva] at GA OFA SAB SBA OWA SNA ⊢
  rw [hvb] at GB OFB SAB SBA OWB SNB ⊢
  rw [hra] at OFA RS
  rw [hrb] at OFB RS
  clear hva hvb hra hrb ha hb wa wb hf hT hq
  have m1 := Mod.alloc [] w (.cells #[.int .u8 k, .int .u64 bn, .int .i64 br, .int .u64 f, .int .u64 l, .int .u64 c, .slice vo vl vc, .slice so bl sc, .slice po sl pc] 29)
  have hb1 := heap_alloc_new w (.cells #[.int .u8 k, .int .u64 bn, .int .i64 br, .int .u64 f, .int .u64 l, .int .u64 c, .slice vo vl vc, .slice so bl sc, .slice po sl pc] 29)
  obtain ⟨w1, hw1⟩ : ∃ x, w.alloc (.cells #[.int .u8 k, .int .u64 bn, .int .i64 br, .int .u64 f, .int .u64 l, .int .u64 c, .slice vo vl vc, .slice so bl sc, .slice po sl pc] 29) = x := ⟨_, rfl⟩
  rw [hw1] at m1 hb1
  have m2 := Mod.alloc [] w1 (.cells #[.int .u8 k', .int .u64 bn', .int .i64 br', .int .u64 f', .int .u64 l', .int .u64 c', .slice vo' vl' vc', .slice so' bl' sc', .slice po' sl' pc'] 29)
  have hb2 := heap_alloc_new w1 (.cells #[.int .u8 k', .int .u64 bn', .int .i64 br', .int .u64 f', .int .u64 l', .int .u64 c', .slice vo' vl' vc', .slice so' bl' sc', .slice po' sl' pc'] 29)
  obtain ⟨w2, hw2⟩ : ∃ x, w1.alloc (.cells #[.int .u8 k', .int .u64 bn', .int .i64 br', .int .u64 f', .int .u64 l', .int .u64 c', .slice vo' vl' vc', .slice so' bl' sc', .slice po' sl' pc'] 29) = x := ⟨_, rfl⟩
  rw [hw2] at m2 hb2
  have M2 := Lib.hid (m1.trans' m2)
  have LA := Lib.hid (box9 (m2.get hb1 List.not_mem_nil))
  have LB := Lib.hid (box9 hb2)
  clear m1 hb1 m2 hb2
  obtain ⟨a0, a1, a2, a3, a4, a5, a6, a7, a8⟩ := LA.out w2 (Mod.refl _ _)
  have HG := Lib.hid (GA.out w2 M2.out)
  go_enter Tryd.func6, Tryd.ntmps6
  go_wp2_with fail
  refine HG.out.mono ?_
  rintro e w3 ⟨⟨qa, rfl, hqa⟩, m3⟩
  have HFA := Lib.hid hqa
  have M3 := Lib.hid (M2.out.trans' m3)
  have LB3 : Hid (∀ w', Mod [] w3 w' → _) := Lib.hid (fun w' h => LB.out w' (m3.trans' h))
  have LA3 : Hid (∀ w', Mod [] w3 w' → _) := Lib.hid (fun w' h => LA.out w' (m3.trans' h))
  clear hqa m3 a0 a1 a2 a3 a4 a5 a6 a7 a8 HG LA LB hw1 hw2 GA
  cases qa
  case true =>
    have HW := Lib.hid (WK.out w3 M3.out)
    go_wp2_with fail
    refine HW.out.mono ?_
    rintro e w4 ⟨rfl, m4⟩
    have M4 := Lib.hid (M3.out.trans' m4)
    clear m4 HW
    go_wp2_with fail
    go_ret
    exact ⟨rfl, M4.out⟩
  replace HFA := Lib.hid (HFA.out rfl)
  obtain ⟨b0, b1, b2, b3, b4, b5, b6, b7, b8⟩ := LB3.out w3 (Mod.refl _ _)
  have HG := Lib.hid (GB.out w3 M3.out)
  go_wp2_with fail
  refine HG.out.mono ?_
  rintro e w4 ⟨⟨qb, rfl, hqb⟩, m4⟩
  have HFB := Lib.hid hqb
  have M4 := Lib.hid (M3.out.trans' m4)
  have LB4 : Hid (∀ w', Mod [] w4 w' → _) := Lib.hid (fun w' h => LB3.out w' (m4.trans' h))
  have LA4 : Hid (∀ w', Mod [] w4 w' → _) := Lib.hid (fun w' h => LA3.out w' (m4.trans' h))
  clear hqb m4 b0 b1 b2 b3 b4 b5 b6 b7 b8 HG LA3 LB3 GB
  cases qb
  case true =>
    have HW := Lib.hid (WK.out w4 M4.out)
    go_wp2_with fail
    refine HW.out.mono ?_
    rintro e w5 ⟨rfl, m5⟩
    have M5 := Lib.hid (M4.out.trans' m5)
    clear m5 HW
    go_wp2_with fail
    go_ret
    exact ⟨rfl, M5.out⟩
  replace HFB := Lib.hid (HFB.out rfl)
  replace OWA := Lib.hid (OWA.out HFA.out)
  replace OWB := Lib.hid (OWB.out HFB.out)
  clear HFA HFB M3 M2
  go_upto_region 3 with (fail)
  refine rest_start [] 6 #[false, false, false, false, false, false] rfl (by kernel_rfl) (by kernel_rfl) ?_
  intro w5 m5
  have M5 := Lib.hid (M4.out.trans' m5)
  have LA5 : Hid (∀ w', Mod [] w5 w' → _) := Lib.hid (fun w' h => LA4.out w' (m5.trans' h))
  have LB5 : Hid (∀ w', Mod [] w5 w' → _) := Lib.hid (fun w' h => LB4.out w' (m5.trans' h))
  clear m5 M4 LA4 LB4
  refine rest_got (i := 0) (v := ?v1) rfl (by kernel_rfl) (by kernel_rfl) (by kernel_rfl) (fun _ _ _ h => h) (by rfl) ?y1 ?r1
  case y1 => ((intro w9' hm9'; obtain ⟨hc0', hc1', hc2', hc3', hc4', hc5', hc6', hc7', hc8'⟩ := LA5.out w9' hm9'; clear hm9'; go_simp; with_reducible rfl))
  try simp only [Act.put, List.setIfInBounds_toArray, List.set_cons_zero, List.set_cons_succ]
  refine rest_got (i := 2) (v := ?v2) rfl (by kernel_rfl) (by kernel_rfl) (by kernel_rfl) (fun _ _ _ h => h) (by rfl) ?y2 ?r2
  case y2 => ((intro w9' hm9'; obtain ⟨hc0', hc1', hc2', hc3', hc4', hc5', hc6', hc7', hc8'⟩ := LB5.out w9' hm9'; clear hm9'; go_simp; with_reducible rfl))
  try simp only [Act.put, List.setIfInBounds_toArray, List.set_cons_zero, List.set_cons_succ]
  refine rest_one (i := 1) (by kernel_rfl) rfl (by rfl) ?_
  have HX := Lib.hid (OFA.out w5 M5.out)
  go_wp2_with fail
  refine HX.out.mono ?_
  rintro e w6 ⟨rfl, m6⟩
  go_wp2_with fail
  refine back_to (K1 := []) m6 (by simp) ?_
  have M6 := Lib.hid (M5.out.trans' m6)
  have LA6 : Hid (∀ w', Mod [] w6 w' → _) := Lib.hid (fun w' h => LA5.out w' (m6.trans' h))
  have LB6 : Hid (∀ w', Mod [] w6 w' → _) := Lib.hid (fun w' h => LB5.out w' (m6.trans' h))
  clear m6 HX M5 LA5 LB5
  
  refine rest_one (i := 3) (by kernel_rfl) rfl (by rfl) ?_
  have HX := Lib.hid (OFB.out w6 M6.out)
  go_wp2_with fail
  refine HX.out.mono ?_
  rintro e w7 ⟨rfl, m7⟩
  go_wp2_with fail
  refine back_to (K1 := []) m7 (by simp) ?_
  have M7 := Lib.hid (M6.out.trans' m7)
  have LA7 : Hid (∀ w', Mod [] w7 w' → _) := Lib.hid (fun w' h => LA6.out w' (m7.trans' h))
  have LB7 : Hid (∀ w', Mod [] w7 w' → _) := Lib.hid (fun w' h => LB6.out w' (m7.trans' h))
  clear m7 HX M6 LA6 LB6
  
  refine rest_one (i := 4) (by kernel_rfl) rfl (by rfl) ?_
  have HX := Lib.hid (RS.out w7 M7.out)
  go_wp2_with fail
  refine HX.out.mono ?_
  rintro e w8 ⟨rfl, m8⟩
  go_wp2_with fail
  refine back_to (K1 := []) m8 (by simp) ?_
  have M8 := Lib.hid (M7.out.trans' m8)
  have LA8 : Hid (∀ w', Mod [] w8 w' → _) := Lib.hid (fun w' h => LA7.out w' (m8.trans' h))
  have LB8 : Hid (∀ w', Mod [] w8 w' → _) := Lib.hid (fun w' h => LB7.out w' (m8.trans' h))
  clear m8 HX M7 LA7 LB7
  refine rest_got (i := 5) (v := ?v3) rfl (by kernel_rfl) (by kernel_rfl) (by kernel_rfl) (fun _ _ _ h => h) (by rfl) ?y3 ?r3
  case y3 => (intro w9q hSwq; clear hSwq; go_simp; with_reducible rfl)
  try simp only [Act.put, List.setIfInBounds_toArray, List.set_cons_zero, List.set_cons_succ]
  refine rest_done (by kernel_rfl) ?_ _
  go_upto_region 4 with (fail)
  have HQQ : Hid ((q == q) = true) := Lib.hid (by cases q <;> rfl)
  refine rest_start [] 28 #[false, false, false, false, false, false, false, false, false, false, false, false, false, false, false, false, false, false, false, false, false, false, false, false, false, false, false, false] rfl (by kernel_rfl) (by kernel_rfl) ?_
  intro w9 m9
  have M9 := Lib.hid (M8.out.trans' m9)
  have LA9 : Hid (∀ w', Mod [] w9 w' → _) := Lib.hid (fun w' h => LA8.out w' (m9.trans' h))
  have LB9 : Hid (∀ w', Mod [] w9 w' → _) := Lib.hid (fun w' h => LB8.out w' (m9.trans' h))
  clear m9 M8 LA8 LB8
  refine rest_got (i := 0) (v := ?v4) rfl (by kernel_rfl) (by kernel_rfl) (by kernel_rfl) (fun _ _ _ h => h) (by rfl) ?y4 ?r4
  case y4 => ((intro w9' hm9'; obtain ⟨hc0', hc1', hc2', hc3', hc4', hc5', hc6', hc7', hc8'⟩ := LA9.out w9' hm9'; clear hm9'; go_simp; with_reducible rfl))
  try simp only [Act.put, List.setIfInBounds_toArray, List.set_cons_zero, List.set_cons_succ]
  refine rest_got (i := 1) (v := ?v5) rfl (by kernel_rfl) (by kernel_rfl) (by kernel_rfl) (fun _ _ _ h => h) (by rfl) ?y5 ?r5
  case y5 => ((intro w9' hm9'; obtain ⟨hc0', hc1', hc2', hc3', hc4', hc5', hc6', hc7', hc8'⟩ := LB9.out w9' hm9'; clear hm9'; go_simp; with_reducible rfl))
  try simp only [Act.put, List.setIfInBounds_toArray, List.set_cons_zero, List.set_cons_succ]
  refine rest_got (i := 3) (v := ?v6) rfl (by kernel_rfl) (by kernel_rfl) (by kernel_rfl) (fun _ _ _ h => h) (by rfl) ?y6 ?r6
  case y6 => (intro w9q hSwq; clear hSwq; go_simp; with_reducible rfl)
  try simp only [Act.put, List.setIfInBounds_toArray, List.set_cons_zero, List.set_cons_succ]
  refine rest_one (i := 2) (by kernel_rfl) rfl (by rfl) ?_
  have HX := Lib.hid (SAB.out w9 M9.out)
  go_wp2_with fail
  refine HX.out.mono ?_
  rintro e w10 ⟨rfl, m10⟩
  go_wp2_with fail
  refine back_to (K1 := []) m10 (by simp) ?_
  have M10 := Lib.hid (M9.out.trans' m10)
  have LA10 : Hid (∀ w', Mod [] w10 w' → _) := Lib.hid (fun w' h => LA9.out w' (m10.trans' h))
  have LB10 : Hid (∀ w', Mod [] w10 w' → _) := Lib.hid (fun w' h => LB9.out w' (m10.trans' h))
  clear m10 HX M9 LA9 LB9
  refine rest_got (i := 4) (v := ?v7) rfl (by kernel_rfl) (by kernel_rfl) (by kernel_rfl) (fun _ _ _ h => h) (by rfl) ?y7 ?r7
  case y7 => (intro w9q hSwq; clear hSwq; go_simp; with_reducible rfl)
  try simp only [Act.put, List.setIfInBounds_toArray, List.set_cons_zero, List.set_cons_succ]
  refine rest_got (i := 5) (v := ?v8) rfl (by kernel_rfl) (by kernel_rfl) (by kernel_rfl) (fun _ _ _ h => h) (by rfl) ?y8 ?r8
  case y8 => (intro w9q hSwq; clear hSwq; go_simp; with_reducible rfl)
  try simp only [Act.put, List.setIfInBounds_toArray, List.set_cons_zero, List.set_cons_succ]
  refine rest_got (i := 6) (v := ?v9) rfl (by kernel_rfl) (by kernel_rfl) (by kernel_rfl) (fun _ _ _ h => h) (by rfl) ?y9 ?r9
  case y9 => ((intro w9' hm9'; obtain ⟨hc0', hc1', hc2', hc3', hc4', hc5', hc6', hc7', hc8'⟩ := LB10.out w9' hm9'; clear hm9'; go_simp; with_reducible rfl))
  try simp only [Act.put, List.setIfInBounds_toArray, List.set_cons_zero, List.set_cons_succ]
  refine rest_got (i := 7) (v := ?v10) rfl (by kernel_rfl) (by kernel_rfl) (by kernel_rfl) (fun _ _ _ h => h) (by rfl) ?y10 ?r10
  case y10 => ((intro w9' hm9'; obtain ⟨hc0', hc1', hc2', hc3', hc4', hc5', hc6', hc7', hc8'⟩ := LA10.out w9' hm9'; clear hm9'; go_simp; with_reducible rfl))
  try simp only [Act.put, List.setIfInBounds_toArray, List.set_cons_zero, List.set_cons_succ]
  refine rest_got (i := 9) (v := ?v11) rfl (by kernel_rfl) (by kernel_rfl) (by kernel_rfl) (fun _ _ _ h => h) (by rfl) ?y11 ?r11
  case y11 => (intro w9q hSwq; clear hSwq; go_simp; with_reducible rfl)
  try simp only [Act.put, List.setIfInBounds_toArray, List.set_cons_zero, List.set_cons_succ]
  refine rest_one (i := 8) (by kernel_rfl) rfl (by rfl) ?_
  have HX := Lib.hid (SBA.out w10 M10.out)
  go_wp2_with fail
  refine HX.out.mono ?_
  rintro e w11 ⟨rfl, m11⟩
  go_wp2_with fail
  refine back_to (K1 := []) m11 (by simp) ?_
  have M11 := Lib.hid (M10.out.trans' m11)
  have LA11 : Hid (∀ w', Mod [] w11 w' → _) := Lib.hid (fun w' h => LA10.out w' (m11.trans' h))
  have LB11 : Hid (∀ w', Mod [] w11 w' → _) := Lib.hid (fun w' h => LB10.out w' (m11.trans' h))
  clear m11 HX M10 LA10 LB10
  refine rest_got (i := 10) (v := ?v12) rfl (by kernel_rfl) (by kernel_rfl) (by kernel_rfl) (fun _ _ _ h => h) (by rfl) ?y12 ?r12
  case y12 => (intro w9q hSwq; clear hSwq; go_simp; with_reducible rfl)
  try simp only [Act.put, List.setIfInBounds_toArray, List.set_cons_zero, List.set_cons_succ]
  refine rest_got (i := 11) (v := ?v13) rfl (by kernel_rfl) (by kernel_rfl) (by kernel_rfl) (fun _ _ _ h => h) (by rfl) ?y13 ?r13
  case y13 => (intro w9q hSwq; clear hSwq; go_simp; with_reducible rfl)
  try simp only [Act.put, List.setIfInBounds_toArray, List.set_cons_zero, List.set_cons_succ]
  refine rest_got (i := 12) (v := ?v14) rfl (by kernel_rfl) (by kernel_rfl) (by kernel_rfl) (fun _ _ _ h => h) (by rfl) ?y14 ?r14
  case y14 => (intro w9q hSwq; clear hSwq; go_simp; with_reducible rfl)
  try simp only [Act.put, List.setIfInBounds_toArray, List.set_cons_zero, List.set_cons_succ]
  refine rest_got (i := 13) (v := ?v15) rfl (by kernel_rfl) (by kernel_rfl) (by kernel_rfl) (fun _ _ _ h => h) (by rfl) ?y15 ?r15
  case y15 => ((intro w9' hm9'; obtain ⟨hc0', hc1', hc2', hc3', hc4', hc5', hc6', hc7', hc8'⟩ := LA11.out w9' hm9'; clear hm9'; go_simp; with_reducible rfl))
  try simp only [Act.put, List.setIfInBounds_toArray, List.set_cons_zero, List.set_cons_succ]
  refine rest_got (i := 15) (v := ?v16) rfl (by kernel_rfl) (by kernel_rfl) (by kernel_rfl) (fun _ _ _ h => h) (by rfl) ?y16 ?r16
  case y16 => ((intro w9' hm9'; obtain ⟨hc0', hc1', hc2', hc3', hc4', hc5', hc6', hc7', hc8'⟩ := LA11.out w9' hm9'; clear hm9'; go_simp; with_reducible rfl))
  try simp only [Act.put, List.setIfInBounds_toArray, List.set_cons_zero, List.set_cons_succ]
  refine rest_one (i := 14) (by kernel_rfl) rfl (by rfl) ?_
  have HX := Lib.hid (OWA.out w11 M11.out)
  go_wp2_with fail
  refine HX.out.mono ?_
  rintro e w12 ⟨na, rfl, hd12, nm12, m12⟩
  have HN12 : Hid (∀ w9, Mod [] w12 w9 → Calls Tryd.prog 22 #[msgV na, _] w9 fun e w3 => e = .returned (.bool true) ∧ Mod [] w9 w3) := Lib.hid (fun w9 m9 => SNA.out na w11 w9 hd12 M11.out (m12.trans' m9) (nm12.mod0 m9))
  clear nm12 hd12
  go_wp2_with fail
  refine back_to (K1 := []) m12 (by simp) ?_
  have M12 := Lib.hid (M11.out.trans' m12)
  have LA12 : Hid (∀ w', Mod [] w12 w' → _) := Lib.hid (fun w' h => LA11.out w' (m12.trans' h))
  have LB12 : Hid (∀ w', Mod [] w12 w' → _) := Lib.hid (fun w' h => LB11.out w' (m12.trans' h))
  clear m12 HX M11 LA11 LB11
  
  refine rest_one (i := 16) (by kernel_rfl) rfl (by rfl) ?_
  have HX := Lib.hid (HN12.out w12 (Mod.refl _ _))
  go_wp2_with fail
  refine HX.out.mono ?_
  rintro e w13 ⟨rfl, m13⟩
  go_wp2_with fail
  refine back_to (K1 := []) m13 (by simp) ?_
  have M13 := Lib.hid (M12.out.trans' m13)
  have LA13 : Hid (∀ w', Mod [] w13 w' → _) := Lib.hid (fun w' h => LA12.out w' (m13.trans' h))
  have LB13 : Hid (∀ w', Mod [] w13 w' → _) := Lib.hid (fun w' h => LB12.out w' (m13.trans' h))
  clear m13 HX M12 LA12 LB12
  refine rest_got (i := 17) (v := ?v17) rfl (by kernel_rfl) (by kernel_rfl) (by kernel_rfl) (fun _ _ _ h => h) (by rfl) ?y17 ?r17
  case y17 => (intro w9q hSwq; clear hSwq; go_simp; with_reducible rfl)
  try simp only [Act.put, List.setIfInBounds_toArray, List.set_cons_zero, List.set_cons_succ]
  refine rest_got (i := 18) (v := ?v18) rfl (by kernel_rfl) (by kernel_rfl) (by kernel_rfl) (fun _ _ _ h => h) (by rfl) ?y18 ?r18
  case y18 => (intro w9q hSwq; clear hSwq; go_simp; with_reducible rfl)
  try simp only [Act.put, List.setIfInBounds_toArray, List.set_cons_zero, List.set_cons_succ]
  refine rest_got (i := 19) (v := ?v19) rfl (by kernel_rfl) (by kernel_rfl) (by kernel_rfl) (fun _ _ _ h => h) (by rfl) ?y19 ?r19
  case y19 => ((intro w9' hm9'; obtain ⟨hc0', hc1', hc2', hc3', hc4', hc5', hc6', hc7', hc8'⟩ := LB13.out w9' hm9'; clear hm9'; go_simp; with_reducible rfl))
  try simp only [Act.put, List.setIfInBounds_toArray, List.set_cons_zero, List.set_cons_succ]
  refine rest_got (i := 21) (v := ?v20) rfl (by kernel_rfl) (by kernel_rfl) (by kernel_rfl) (fun _ _ _ h => h) (by rfl) ?y20 ?r20
  case y20 => ((intro w9' hm9'; obtain ⟨hc0', hc1', hc2', hc3', hc4', hc5', hc6', hc7', hc8'⟩ := LB13.out w9' hm9'; clear hm9'; go_simp; with_reducible rfl))
  try simp only [Act.put, List.setIfInBounds_toArray, List.set_cons_zero, List.set_cons_succ]
  refine rest_one (i := 20) (by kernel_rfl) rfl (by rfl) ?_
  have HX := Lib.hid (OWB.out w13 M13.out)
  go_wp2_with fail
  refine HX.out.mono ?_
  rintro e w14 ⟨nb, rfl, hd14, nm14, m14⟩
  have HN14 : Hid (∀ w9, Mod [] w14 w9 → Calls Tryd.prog 22 #[msgV nb, _] w9 fun e w3 => e = .returned (.bool true) ∧ Mod [] w9 w3) := Lib.hid (fun w9 m9 => SNB.out nb w13 w9 hd14 M13.out (m14.trans' m9) (nm14.mod0 m9))
  clear nm14 hd14
  go_wp2_with fail
  refine back_to (K1 := []) m14 (by simp) ?_
  have M14 := Lib.hid (M13.out.trans' m14)
  have LA14 : Hid (∀ w', Mod [] w14 w' → _) := Lib.hid (fun w' h => LA13.out w' (m14.trans' h))
  have LB14 : Hid (∀ w', Mod [] w14 w' → _) := Lib.hid (fun w' h => LB13.out w' (m14.trans' h))
  clear m14 HX M13 LA13 LB13
  
  refine rest_one (i := 22) (by kernel_rfl) rfl (by rfl) ?_
  have HX := Lib.hid (HN14.out w14 (Mod.refl _ _))
  go_wp2_with fail
  refine HX.out.mono ?_
  rintro e w15 ⟨rfl, m15⟩
  go_wp2_with fail
  refine back_to (K1 := []) m15 (by simp) ?_
  have M15 := Lib.hid (M14.out.trans' m15)
  have LA15 : Hid (∀ w', Mod [] w15 w' → _) := Lib.hid (fun w' h => LA14.out w' (m15.trans' h))
  have LB15 : Hid (∀ w', Mod [] w15 w' → _) := Lib.hid (fun w' h => LB14.out w' (m15.trans' h))
  clear m15 HX M14 LA14 LB14
  refine rest_got (i := 23) (v := ?v21) rfl (by kernel_rfl) (by kernel_rfl) (by kernel_rfl) (fun _ _ _ h => h) (by rfl) ?y21 ?r21
  case y21 => (intro w9q hSwq; clear hSwq; go_simp; with_reducible rfl)
  try simp only [Act.put, List.setIfInBounds_toArray, List.set_cons_zero, List.set_cons_succ]
  refine rest_got (i := 24) (v := ?v22) rfl (by kernel_rfl) (by kernel_rfl) (by kernel_rfl) (fun _ _ _ h => h) (by rfl) ?y22 ?r22
  case y22 => (intro w9q hSwq; clear hSwq; go_simp; with_reducible rfl)
  try simp only [Act.put, List.setIfInBounds_toArray, List.set_cons_zero, List.set_cons_succ]
  refine rest_one (i := 25) (by kernel_rfl) rfl (by rfl) ?_
  have HX := Lib.hid (WK.out w15 M15.out)
  go_wp2_with fail
  refine HX.out.mono ?_
  rintro e w16 ⟨rfl, m16⟩
  go_wp2_with fail
  refine back_to (K1 := []) m16 (by simp) ?_
  have M16 := Lib.hid (M15.out.trans' m16)
  have LA16 : Hid (∀ w', Mod [] w16 w' → _) := Lib.hid (fun w' h => LA15.out w' (m16.trans' h))
  have LB16 : Hid (∀ w', Mod [] w16 w' → _) := Lib.hid (fun w' h => LB15.out w' (m16.trans' h))
  clear m16 HX M15 LA15 LB15
  refine rest_got (i := 26) (v := ?v23) rfl (by kernel_rfl) (by kernel_rfl) (by kernel_rfl) (fun _ _ _ h => h) (by rfl) ?y23 ?r23
  case y23 => (intro w9q hSwq; clear hSwq; go_simp; with_reducible rfl)
  try simp only [Act.put, List.setIfInBounds_toArray, List.set_cons_zero, List.set_cons_succ]
  refine rest_got (i := 27) (v := ?v24) rfl (by kernel_rfl) (by kernel_rfl) (by kernel_rfl) (fun _ _ _ h => h) (by rfl) ?y24 ?r24
  case y24 => (intro w9q hSwq; clear hSwq; go_simp; with_reducible rfl)
  try simp only [Act.put, List.setIfInBounds_toArray, List.set_cons_zero, List.set_cons_succ]
  refine rest_done (by kernel_rfl) ?_ _
  go_wp2_with fail
  go_ret
  exact ⟨rfl, M16.out⟩
end Go.Proofs.YtekdnljincbghaaDoor
