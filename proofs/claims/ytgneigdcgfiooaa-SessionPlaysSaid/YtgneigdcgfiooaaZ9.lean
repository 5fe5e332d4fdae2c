/- Texts put together (9 of 9): SessSame, SessP1, SessPlays. -/
import Derived.Test.YtgneigdcgfiooaaZ8
import Derived.Test.YtgneigdcgfiooaaZ1
/- The walks of a table's Copy, of Same, and of what is asked of no table. -/
namespace Go.Proofs.Ytgneigdcgfiooaa
open Go Go.RowKit Go.Lib Go.MapKept

theorem nilF : (mapV fun _ => none) = fun _ => none := by funext v; unfold mapV; split <;> rfl
/-- A table, or none. -/
def TabN (w : World) (v : Value) (n : Nat) (f : Int → Option Ent) : Prop := (v = .pointer none ∧ n = 0 ∧ f = fun _ => none) ∨ ∃ g b, v = .pointer (some ⟨g, 0, none⟩) ∧ Tab w g b n f
theorem TabN.mod0 {w w' : World} {v : Value} {n : Nat} {f : Int → Option Ent} (h : TabN w v n f) (hm : Mod [] w w') : TabN w' v n f := by
  rcases h with h | ⟨g, b, h1, h2⟩
  · exact .inl h
  · exact .inr ⟨g, b, h1, h2.mod0 hm⟩
theorem tlen_nil (w : World) : Calls Try.prog 17 #[.pointer none] w fun e w' => e = .returned (.int .i64 0) ∧ w' = w := by
  go_enter Try.func17, Try.ntmps17
  go_wp2
  go_ret
  exact ⟨rfl, rfl⟩
def CopTR (w : World) (n : Nat) (f : Int → Option Ent) (e : Ending) (w' : World) : Prop :=
  ∃ g b, e = .returned (.pointer (some ⟨g, 0, none⟩)) ∧ Tab w' g b n f ∧ Mod [] w w' ∧ w.heap.size ≤ b
set_option maxRecDepth 100000 in
set_option maxHeartbeats 1000000 in
theorem tcopy_any (v : Value) (n : Nat) (f : Int → Option Ent) (w : World) (h : TabN w v n f) :
    Calls Try.prog 15 #[v] w (CopTR w n f) := by
  unfold CopTR
  rcases h with ⟨rfl, rfl, rfl⟩ | ⟨g, b, rfl, h⟩
  · go_enter Try.func15, Try.ntmps15
    go_wp2_with fail
    refine (new_any w).mono ?_
    rintro e w1 ⟨g, b, rfl, t1, m1, z1⟩
    have T1 := Lib.hid t1
    have M1 := Lib.hid m1
    have Z1 := Lib.hid z1
    clear t1 m1 z1
    go_wp2
    go_ret
    exact ⟨g, b, rfl, T1.out, M1.out, Z1.out⟩
  · have H := Lib.hid h
    clear h
    go_enter Try.func15, Try.ntmps15
    go_wp2_with fail
    refine (new_any w).mono ?_
    rintro e w1 ⟨g1, b1, rfl, t1, m1, z1⟩
    have T1 := Lib.hid t1
    have H1 := Lib.hid (H.out.mod0 m1)
    have M1 := Lib.hid m1
    have Z1 := Lib.hid z1
    clear t1 m1 z1
    go_upto_region 3 with (fail)
    refine rest_start [b1] 15 #[false, false, false, false, false, false, false, false, false, false, false, false, false, false, false] rfl (by kernel_rfl) (by kernel_rfl) ?_
    intro w2 m2
    have T2 := Lib.hid (T1.out.mod0 m2)
    have H2 := Lib.hid (H1.out.mod0 m2)
    have M2 := Lib.hid (M1.out.trans' m2)
    obtain ⟨gc1, p1, p2, p3⟩ := T2.out
    obtain ⟨gc, q1, q2, q3⟩ := H2.out
    have n1 := p3.cell_ne p1
    have n2 := p3.cell_ne p2
    have n3 := p3.cell_ne q1
    have n4 := p3.cell_ne q2
    have hbb : b1 ≠ b := by
      have e1 := Z1.out
      obtain ⟨_, _, _, h3⟩ := H.out
      have e2 := h3.lt
      omega
    have C0 : Hid (w2.cell? ⟨g1, 0, none⟩ = some (.pointer (some ⟨gc1, 0, none⟩))) := Lib.hid (by rw [cell_of_block p1]; rfl)
    have C1 : Hid (w2.cell? ⟨gc1, 0, none⟩ = some (.map (some b1))) := Lib.hid (by rw [cell_of_block p2]; rfl)
    have C2 : Hid (w2.cell? ⟨g, 0, none⟩ = some (.pointer (some ⟨gc, 0, none⟩))) := Lib.hid (by rw [cell_of_block q1]; rfl)
    have C3 : Hid (w2.cell? ⟨gc, 0, none⟩ = some (.map (some b))) := Lib.hid (by rw [cell_of_block q2]; rfl)
    have P1 := Lib.hid p1
    have P2 := Lib.hid p2
    have HMC := Lib.hid (mcopy_any b1 b n f w2 hbb p3 q3)
    clear p1 p2 p3 q1 q2 q3 m2
    refine rest_got (i := 0) (v := ?v1) rfl (by kernel_rfl) (by kernel_rfl) (by kernel_rfl) (fun _ _ _ h => h) (by rfl) ?y1 ?r1
    case y1 => (intro w9q hSwq; clear hSwq; go_simp; with_reducible rfl)
    try simp only [Act.put, List.setIfInBounds_toArray, List.set_cons_zero, List.set_cons_succ]
    refine rest_got (i := 1) (v := ?v2) rfl (by kernel_rfl) (by kernel_rfl) (by kernel_rfl) (fun _ _ _ h => h) (by rfl) ?y2 ?r2
    case y2 => (intro w9q hSwq; clear hSwq; go_simp; with_reducible rfl)
    try simp only [Act.put, List.setIfInBounds_toArray, List.set_cons_zero, List.set_cons_succ]
    refine rest_got (i := 2) (v := ?v3) rfl (by kernel_rfl) (by kernel_rfl) (by kernel_rfl) (fun _ _ _ h => h) (by rfl) ?y3 ?r3
    case y3 => (intro w9q hSwq; clear hSwq; go_simp; with_reducible rfl)
    try simp only [Act.put, List.setIfInBounds_toArray, List.set_cons_zero, List.set_cons_succ]
    refine rest_got (i := 3) (v := ?v4) rfl (by kernel_rfl) (by kernel_rfl) (by kernel_rfl) (fun _ _ _ h => h) (by rfl) ?y4 ?r4
    case y4 => ((intro w9' hm9'; have hc9' := Mod.cell hm9' C0.out (by first | exact List.not_mem_nil | assumption | (simp; done) | (simp; omega)); clear hm9'; go_simp; with_reducible rfl))
    try simp only [Act.put, List.setIfInBounds_toArray, List.set_cons_zero, List.set_cons_succ]
    refine rest_got (i := 4) (v := ?v5) rfl (by kernel_rfl) (by kernel_rfl) (by kernel_rfl) (fun _ _ _ h => h) (by rfl) ?y5 ?r5
    case y5 => (intro w9q hSwq; clear hSwq; go_simp; with_reducible rfl)
    try simp only [Act.put, List.setIfInBounds_toArray, List.set_cons_zero, List.set_cons_succ]
    refine rest_got (i := 5) (v := ?v6) rfl (by kernel_rfl) (by kernel_rfl) (by kernel_rfl) (fun _ _ _ h => h) (by rfl) ?y6 ?r6
    case y6 => (intro w9q hSwq; clear hSwq; go_simp; with_reducible rfl)
    try simp only [Act.put, List.setIfInBounds_toArray, List.set_cons_zero, List.set_cons_succ]
    refine rest_got (i := 6) (v := ?v7) rfl (by kernel_rfl) (by kernel_rfl) (by kernel_rfl) (fun _ _ _ h => h) (by rfl) ?y7 ?r7
    case y7 => ((intro w9' hm9'; have hc9' := Mod.cell hm9' C1.out (by first | exact List.not_mem_nil | assumption | (simp; done) | (simp; omega)); clear hm9'; go_simp; with_reducible rfl))
    try simp only [Act.put, List.setIfInBounds_toArray, List.set_cons_zero, List.set_cons_succ]
    refine rest_got (i := 7) (v := ?v8) rfl (by kernel_rfl) (by kernel_rfl) (by kernel_rfl) (fun _ _ _ h => h) (by rfl) ?y8 ?r8
    case y8 => (intro w9q hSwq; clear hSwq; go_simp; with_reducible rfl)
    try simp only [Act.put, List.setIfInBounds_toArray, List.set_cons_zero, List.set_cons_succ]
    refine rest_got (i := 8) (v := ?v9) rfl (by kernel_rfl) (by kernel_rfl) (by kernel_rfl) (fun _ _ _ h => h) (by rfl) ?y9 ?r9
    case y9 => (intro w9q hSwq; clear hSwq; go_simp; with_reducible rfl)
    try simp only [Act.put, List.setIfInBounds_toArray, List.set_cons_zero, List.set_cons_succ]
    refine rest_got (i := 9) (v := ?v10) rfl (by kernel_rfl) (by kernel_rfl) (by kernel_rfl) (fun _ _ _ h => h) (by rfl) ?y10 ?r10
    case y10 => (intro w9q hSwq; clear hSwq; go_simp; with_reducible rfl)
    try simp only [Act.put, List.setIfInBounds_toArray, List.set_cons_zero, List.set_cons_succ]
    refine rest_got (i := 10) (v := ?v11) rfl (by kernel_rfl) (by kernel_rfl) (by kernel_rfl) (fun _ _ _ h => h) (by rfl) ?y11 ?r11
    case y11 => ((intro w9' hm9'; have hc9' := Mod.cell hm9' C2.out (by first | exact List.not_mem_nil | assumption | (simp; done) | (simp; omega)); clear hm9'; go_simp; with_reducible rfl))
    try simp only [Act.put, List.setIfInBounds_toArray, List.set_cons_zero, List.set_cons_succ]
    refine rest_got (i := 11) (v := ?v12) rfl (by kernel_rfl) (by kernel_rfl) (by kernel_rfl) (fun _ _ _ h => h) (by rfl) ?y12 ?r12
    case y12 => (intro w9q hSwq; clear hSwq; go_simp; with_reducible rfl)
    try simp only [Act.put, List.setIfInBounds_toArray, List.set_cons_zero, List.set_cons_succ]
    refine rest_got (i := 12) (v := ?v13) rfl (by kernel_rfl) (by kernel_rfl) (by kernel_rfl) (fun _ _ _ h => h) (by rfl) ?y13 ?r13
    case y13 => (intro w9q hSwq; clear hSwq; go_simp; with_reducible rfl)
    try simp only [Act.put, List.setIfInBounds_toArray, List.set_cons_zero, List.set_cons_succ]
    refine rest_got (i := 13) (v := ?v14) rfl (by kernel_rfl) (by kernel_rfl) (by kernel_rfl) (fun _ _ _ h => h) (by rfl) ?y14 ?r14
    case y14 => ((intro w9' hm9'; have hc9' := Mod.cell hm9' C3.out (by first | exact List.not_mem_nil | assumption | (simp; done) | (simp; omega)); clear hm9'; go_simp; with_reducible rfl))
    try simp only [Act.put, List.setIfInBounds_toArray, List.set_cons_zero, List.set_cons_succ]
    refine rest_one (i := 14) (by kernel_rfl) rfl (by rfl) ?_
    go_wp2_with fail
    refine HMC.out.mono ?_
    rintro e w3 ⟨⟨v, rfl⟩, hmap, m3⟩
    have T3 : Hid (Tab w3 g1 b1 n f) := Lib.hid ⟨gc1, m3.get P1.out (by simp; omega), m3.get P2.out (by simp; omega), hmap⟩
    have M3 := Lib.hid (M2.out.fresh1 m3 (Z1.out))
    go_wp2_with fail
    refine back_to (K1 := []) m3 (by simp) ?_
    clear m3 hmap
    refine rest_done (by kernel_rfl) ?_ _
    go_wp2
    go_ret
    exact ⟨g1, b1, rfl, T3.out, M3.out, Z1.out⟩
set_option maxRecDepth 100000 in
set_option maxHeartbeats 1000000 in
theorem tsame_any (v1 v2 : Value) (n1 n2 : Nat) (f1 f2 : Int → Option Ent) (w : World) (h1 : TabN w v1 n1 f1) (h2 : TabN w v2 n2 f2) :
    Calls Try.prog 16 #[v1, v2] w (EqTR w n1 n2 f1 f2) := by
  have H1 := Lib.hid h1
  have H2 := Lib.hid h2
  clear h1 h2
  unfold EqTR
  go_enter Try.func16, Try.ntmps16
  go_upto_region 1 with (fail)
  refine rest_start [] 18 #[false, false, false, false, false, false, false, false, false, false, false, false, false, false, false, false, false, false] rfl (by kernel_rfl) (by kernel_rfl) ?_
  intro w2 m2
  have M2 := Lib.hid m2
  have HC1 := Lib.hid (tcopy_any v1 n1 f1 w2 (H1.out.mod0 m2))
  unfold CopTR at HC1
  clear m2
  refine rest_got (i := 0) (v := ?v15) rfl (by kernel_rfl) (by kernel_rfl) (by kernel_rfl) (fun _ _ _ h => h) (by rfl) ?y15 ?r15
  case y15 => (intro w9q hSwq; clear hSwq; go_simp; with_reducible rfl)
  try simp only [Act.put, List.setIfInBounds_toArray, List.set_cons_zero, List.set_cons_succ]
  refine rest_got (i := 8) (v := ?v16) rfl (by kernel_rfl) (by kernel_rfl) (by kernel_rfl) (fun _ _ _ h => h) (by rfl) ?y16 ?r16
  case y16 => (intro w9q hSwq; clear hSwq; go_simp; with_reducible rfl)
  try simp only [Act.put, List.setIfInBounds_toArray, List.set_cons_zero, List.set_cons_succ]
  refine rest_one (i := 1) (by kernel_rfl) rfl (by rfl) ?_
  go_wp2_with fail
  refine HC1.out.mono ?_
  rintro e w3 ⟨g1, b1, rfl, t3, m3, z3⟩
  have M3 := Lib.hid (M2.out.trans' m3)
  have T3 := Lib.hid t3
  obtain ⟨gc1, p1, p2, p3⟩ := t3
  have C0 : Hid (w3.cell? ⟨g1, 0, none⟩ = some (.pointer (some ⟨gc1, 0, none⟩))) := Lib.hid (by rw [cell_of_block p1]; rfl)
  have C1 : Hid (w3.cell? ⟨gc1, 0, none⟩ = some (.map (some b1))) := Lib.hid (by rw [cell_of_block p2]; rfl)
  have hg1 := lt_of_block p1
  have hg2 := lt_of_block p2
  have HC2 := Lib.hid (tcopy_any v2 n2 f2 w3 (H2.out.mod0 M3.out))
  unfold CopTR at HC2
  go_wp2_with fail
  refine back_to (K1 := []) m3 (by simp) ?_
  clear m3 p1 p2 p3 z3 HC1
  refine rest_got (i := 2) (v := ?v17) rfl (by kernel_rfl) (by kernel_rfl) (by kernel_rfl) (fun _ _ _ h => h) (by rfl) ?y17 ?r17
  case y17 => (intro w9q hSwq; clear hSwq; go_simp; with_reducible rfl)
  try simp only [Act.put, List.setIfInBounds_toArray, List.set_cons_zero, List.set_cons_succ]
  refine rest_got (i := 3) (v := ?v18) rfl (by kernel_rfl) (by kernel_rfl) (by kernel_rfl) (fun _ _ _ h => h) (by rfl) ?y18 ?r18
  case y18 => (intro w9q hSwq; clear hSwq; go_simp; with_reducible rfl)
  try simp only [Act.put, List.setIfInBounds_toArray, List.set_cons_zero, List.set_cons_succ]
  refine rest_got (i := 4) (v := ?v19) rfl (by kernel_rfl) (by kernel_rfl) (by kernel_rfl) (fun _ _ _ h => h) (by rfl) ?y19 ?r19
  case y19 => ((intro w9' hm9'; have hc9' := Mod.cell hm9' C0.out (by first | exact List.not_mem_nil | assumption | (simp; done) | (simp; omega)); clear hm9'; go_simp; with_reducible rfl))
  try simp only [Act.put, List.setIfInBounds_toArray, List.set_cons_zero, List.set_cons_succ]
  refine rest_got (i := 5) (v := ?v20) rfl (by kernel_rfl) (by kernel_rfl) (by kernel_rfl) (fun _ _ _ h => h) (by rfl) ?y20 ?r20
  case y20 => (intro w9q hSwq; clear hSwq; go_simp; with_reducible rfl)
  try simp only [Act.put, List.setIfInBounds_toArray, List.set_cons_zero, List.set_cons_succ]
  refine rest_got (i := 6) (v := ?v21) rfl (by kernel_rfl) (by kernel_rfl) (by kernel_rfl) (fun _ _ _ h => h) (by rfl) ?y21 ?r21
  case y21 => (intro w9q hSwq; clear hSwq; go_simp; with_reducible rfl)
  try simp only [Act.put, List.setIfInBounds_toArray, List.set_cons_zero, List.set_cons_succ]
  refine rest_got (i := 7) (v := ?v22) rfl (by kernel_rfl) (by kernel_rfl) (by kernel_rfl) (fun _ _ _ h => h) (by rfl) ?y22 ?r22
  case y22 => ((intro w9' hm9'; have hc9' := Mod.cell hm9' C1.out (by first | exact List.not_mem_nil | assumption | (simp; done) | (simp; omega)); clear hm9'; go_simp; with_reducible rfl))
  try simp only [Act.put, List.setIfInBounds_toArray, List.set_cons_zero, List.set_cons_succ]
  refine rest_one (i := 9) (by kernel_rfl) rfl (by rfl) ?_
  go_wp2_with fail
  refine HC2.out.mono ?_
  rintro e w4 ⟨g2, b2, rfl, t4, m4, z4⟩
  have M4 := Lib.hid (M3.out.trans' m4)
  have T4 := Lib.hid (T3.out.mod0 m4)
  obtain ⟨gc2, p1, p2, p3⟩ := t4
  have C2 : Hid (w4.cell? ⟨g2, 0, none⟩ = some (.pointer (some ⟨gc2, 0, none⟩))) := Lib.hid (by rw [cell_of_block p1]; rfl)
  have C3 : Hid (w4.cell? ⟨gc2, 0, none⟩ = some (.map (some b2))) := Lib.hid (by rw [cell_of_block p2]; rfl)
  have hg3 := lt_of_block p1
  have hg4 := lt_of_block p2
  have HE := Lib.hid (by obtain ⟨_, _, _, q3⟩ := T4.out; exact mequal_any b1 b2 n1 n2 f1 f2 w4 q3 p3)
  unfold EqTR at HE
  go_wp2_with fail
  refine back_to (K1 := []) m4 (by simp) ?_
  clear m4 p1 p2 p3 z4 HC2
  refine rest_got (i := 10) (v := ?v23) rfl (by kernel_rfl) (by kernel_rfl) (by kernel_rfl) (fun _ _ _ h => h) (by rfl) ?y23 ?r23
  case y23 => (intro w9q hSwq; clear hSwq; go_simp; with_reducible rfl)
  try simp only [Act.put, List.setIfInBounds_toArray, List.set_cons_zero, List.set_cons_succ]
  refine rest_got (i := 11) (v := ?v24) rfl (by kernel_rfl) (by kernel_rfl) (by kernel_rfl) (fun _ _ _ h => h) (by rfl) ?y24 ?r24
  case y24 => (intro w9q hSwq; clear hSwq; go_simp; with_reducible rfl)
  try simp only [Act.put, List.setIfInBounds_toArray, List.set_cons_zero, List.set_cons_succ]
  refine rest_got (i := 12) (v := ?v25) rfl (by kernel_rfl) (by kernel_rfl) (by kernel_rfl) (fun _ _ _ h => h) (by rfl) ?y25 ?r25
  case y25 => ((intro w9' hm9'; have hc9' := Mod.cell hm9' C2.out (by first | exact List.not_mem_nil | assumption | (simp; done) | (simp; omega)); clear hm9'; go_simp; with_reducible rfl))
  try simp only [Act.put, List.setIfInBounds_toArray, List.set_cons_zero, List.set_cons_succ]
  refine rest_got (i := 13) (v := ?v26) rfl (by kernel_rfl) (by kernel_rfl) (by kernel_rfl) (fun _ _ _ h => h) (by rfl) ?y26 ?r26
  case y26 => (intro w9q hSwq; clear hSwq; go_simp; with_reducible rfl)
  try simp only [Act.put, List.setIfInBounds_toArray, List.set_cons_zero, List.set_cons_succ]
  refine rest_got (i := 14) (v := ?v27) rfl (by kernel_rfl) (by kernel_rfl) (by kernel_rfl) (fun _ _ _ h => h) (by rfl) ?y27 ?r27
  case y27 => (intro w9q hSwq; clear hSwq; go_simp; with_reducible rfl)
  try simp only [Act.put, List.setIfInBounds_toArray, List.set_cons_zero, List.set_cons_succ]
  refine rest_got (i := 15) (v := ?v28) rfl (by kernel_rfl) (by kernel_rfl) (by kernel_rfl) (fun _ _ _ h => h) (by rfl) ?y28 ?r28
  case y28 => ((intro w9' hm9'; have hc9' := Mod.cell hm9' C3.out (by first | exact List.not_mem_nil | assumption | (simp; done) | (simp; omega)); clear hm9'; go_simp; with_reducible rfl))
  try simp only [Act.put, List.setIfInBounds_toArray, List.set_cons_zero, List.set_cons_succ]
  refine rest_one (i := 16) (by kernel_rfl) rfl (by rfl) ?_
  go_wp2_with fail
  refine HE.out.mono ?_
  rintro e w5 ⟨v, rfl, m5, he1, he2⟩
  have M5 := Lib.hid (M4.out.trans' m5)
  have HE1 := Lib.hid he1
  have HE2 := Lib.hid he2
  go_wp2_with fail
  refine back_to (K1 := []) m5 (by simp) ?_
  clear m5 he1 he2 HE
  refine rest_got (i := 17) (v := ?v29) rfl (by kernel_rfl) (by kernel_rfl) (by kernel_rfl) (fun _ _ _ h => h) (by rfl) ?y29 ?r29
  case y29 => (intro w9q hSwq; clear hSwq; go_simp; with_reducible rfl)
  try simp only [Act.put, List.setIfInBounds_toArray, List.set_cons_zero, List.set_cons_succ]
  refine rest_done (by kernel_rfl) ?_ _
  go_wp2
  go_ret
  exact ⟨v, rfl, M5.out, HE1.out, HE2.out⟩
set_option maxRecDepth 100000 in
theorem look_nil (c s : Int) (w : World) : Calls Try.prog 10 #[.pointer none, .int .u32 c, .int .u32 s] w fun e w' =>
      e = .returned (.tuple #[.agg #[.int .u8 0, .string ⟨#[]⟩], .int .u8 0]) ∧ Mod [] w w' := by
  go_enter Try.func10, Try.ntmps10
  go_wp2_with fail
  refine (tlen_nil _).mono ?_
  rintro e w1 ⟨rfl, rfl⟩
  go_wp2
  ((try simp only [Exit.inBlock, Exit.then]); refine bodyPost_ret (by simp [results, Try.results10, go_sem, *]; try rfl) rfl ?_)
  exact ⟨rfl, .ofBelow (by go_grown)⟩
set_option maxRecDepth 100000 in
theorem keep_nil (c s cd : Int) (t : ByteArray) (w : World) : Calls Try.prog 9 #[.pointer none, .int .u32 c, .int .u32 s, .agg #[.int .u8 cd, .string t]] w fun e w' =>
      (∃ v, e = .returned v) ∧ Mod [] w w' := by
  go_enter Try.func9, Try.ntmps9
  go_wp2_with fail
  refine (look_nil c s _).mono ?_
  rintro e w1 ⟨rfl, m1⟩
  have M1 := Lib.hid ((Mod.alloc [] w (.cells #[.int .u8 cd, .string t] 25)).trans' m1)
  clear m1
  go_wp2
  go_end0
  exact ⟨⟨_, rfl⟩, M1.out.trans' (Mod.alloc _ _ _)⟩
set_option maxRecDepth 100000 in
theorem put_nil (w : World) : Calls Try.prog 14 #[.pointer none, .slice none 0 0] w (PutTR w [0]) := by
  unfold PutTR
  refine (callsIn_wide (n := 3)).1 ?_
  refine callsIn_of_wp_marks Try.func14 rfl trivial ?_ rfl
  simp only [Try.ntmps14, List.size_toArray, List.length_cons, List.length_nil, Nat.reduceAdd, Nat.reduceSub, Array.replicate_succ, Array.replicate_zero, List.push_toArray, List.append_toArray, List.nil_append, List.cons_append]
  refine wpIn_wide.2 ?_
  go_wp2_with fail
  refine (tlen_nil w).mono ?_
  rintro e w1 ⟨rfl, rfl⟩
  have HU := Lib.hid (vuint_any none 0 0 0 [] w1 rfl (Own.nil0 _ _ _) (by omega) (by omega))
  unfold RetApp at HU
  go_wp2_with fail
  refine HU.out.mono ?_
  rintro e w2 ⟨ob, m2, oc, rfl, hm2, ho2, hmd2, hsn2⟩
  have HM2 : Hid (Mod [] w1 w2) := Lib.hid hmd2
  have HO2 : Hid (OwnB w2 ob oc (enc7 0)) := Lib.hid ho2
  have HL2 : Hid ((enc7 0).length = m2) := Lib.hid hm2
  have HB2 : Hid (∀ k, k ∈ blk ob → w1.heap.size ≤ k) := Lib.hid fun k hk => by
    rcases hsn2.blk k hk with h | h
    · simp [blk] at h
    · exact h
  clear hm2 ho2 hmd2 hsn2 HU
  go_wp2_with fail
  refine (tlen_nil w2).mono ?_
  rintro e w3 ⟨rfl, rfl⟩
  go_wp2
  refine ⟨_, results_tmp rfl _ _ _, ?_⟩
  have e0 : enc7 0 = [0] := by rw [enc7]; rfl
  exact ⟨ob, m2, oc, rfl, by have := HL2.out; rw [e0] at this; exact this, by have := HO2.out; rw [e0] at this; exact this, HB2.out, HM2.out⟩
end Go.Proofs.Ytgneigdcgfiooaa
/- The plain law of SessionPlays, and the walk of its helper 'great'. -/
namespace Go.Proofs.Ytgneigdcgfiooaa
open Go Go.RowKit Go.Lib Go.MapKept

theorem infoActS : (Try.prog.info? 32).map (fun i => (i.zero, i.size, i.bytes)) = some (some (.agg #[.bool false, .int .u32 0, .int .u32 0, .int .u8 0, .string ⟨#[]⟩]), 5, 40) := by kernel_rfl
def actC (x : ActS) : List Value := [.bool x.1, .int .u32 x.2.1, .int .u32 x.2.2.1, .int .u8 x.2.2.2.1, .string x.2.2.2.2]
def cellsA (l : List ActS) : List Value := l.flatMap actC
theorem cellsA_length (l : List ActS) : (cellsA l).length = l.length * 5 := by
  induction l with
  | nil => rfl
  | cons a r ih => simp only [cellsA, List.flatMap_cons, List.length_append, actC, List.length_cons, List.length_nil] at *; omega
theorem cellsA_at : ∀ (l : List ActS) (j : Nat) (hj : j < l.length) (i : Nat), i < 5 → (cellsA l)[j * 5 + i]? = (actC l[j])[i]? := by
  intro l
  induction l with
  | nil => intro j hj; exact absurd hj (by simp)
  | cons a r ih =>
    intro j hj i hi
    cases j with
    | zero =>
      rw [Nat.zero_mul, Nat.zero_add]
      exact List.getElem?_append_left (show i < (actC a).length from hi)
    | succ j =>
      have e : (j + 1) * 5 + i = 5 + (j * 5 + i) := by omega
      rw [e]
      show (actC a ++ cellsA r)[5 + (j * 5 + i)]? = _
      rw [List.getElem?_append_right (by simp [actC])]
      have := ih j (by simpa using hj) i hi
      simpa [actC] using this
def OwnA (w : World) (ao : Option Addr) (cap : Nat) (l : List ActS) : Prop := Own w 32 5 ao l.length cap (cellsA l)
theorem OwnA.mod {S : List Nat} {w w' : World} {ao : Option Addr} {cap : Nat} {l : List ActS} (h : OwnA w ao cap l) (hm : Mod S w w') (hn : ∀ k, k ∈ blk ao → k ∉ S) : OwnA w' ao cap l := Own.mod h hm hn
theorem OwnA.mod0 {w w' : World} {ao : Option Addr} {cap : Nat} {l : List ActS} (h : OwnA w ao cap l) (hm : Mod [] w w') : OwnA w' ao cap l := Own.mod0 h hm
theorem OwnA.lt {w : World} {ao : Option Addr} {cap : Nat} {l : List ActS} (h : OwnA w ao cap l) : ∀ k, k ∈ blk ao → k < w.heap.size := Own.lt h
theorem OwnA.at' {w : World} {ao : Option Addr} {cap : Nat} {l : List ActS} (h : OwnA w ao cap l) {j : Nat} (hj : j < l.length) :
    ∃ g, ao = some ⟨g, 0, none⟩ ∧ w.cell? ⟨g, j * 5 + 1, none⟩ = some (.int .u32 l[j].2.1) ∧ w.cell? ⟨g, j * 5 + 2, none⟩ = some (.int .u32 l[j].2.2.1) ∧ w.cell? ⟨g, j * 5 + 3, none⟩ = some (.int .u8 l[j].2.2.2.1) ∧ w.cell? ⟨g, j * 5 + 4, none⟩ = some (.string l[j].2.2.2.2) := by
  obtain ⟨g, h1, a1, _⟩ := Own.cell h (j := j * 5 + 1) (u := .int .u32 l[j].2.1) (by rw [cellsA_at l j hj 1 (by omega)]; rfl)
  obtain ⟨g2, h2, a2, _⟩ := Own.cell h (j := j * 5 + 2) (u := .int .u32 l[j].2.2.1) (by rw [cellsA_at l j hj 2 (by omega)]; rfl)
  obtain ⟨g3, h3, a3, _⟩ := Own.cell h (j := j * 5 + 3) (u := .int .u8 l[j].2.2.2.1) (by rw [cellsA_at l j hj 3 (by omega)]; rfl)
  obtain ⟨g4, h4, a4, _⟩ := Own.cell h (j := j * 5 + 4) (u := .string l[j].2.2.2.2) (by rw [cellsA_at l j hj 4 (by omega)]; rfl)
  rw [h1] at h2 h3 h4
  cases h2
  cases h3
  cases h4
  exact ⟨g, h1, a1, a2, a3, a4⟩
theorem wpl_appA {w : World} {ops : Array Oper} {rest : List Oper} {a : Act} {Q : Exit → Act → World → Prop} {dst : Option Tmp} {ty : TypeId} {pos : String} {after : Array Edge} (s x : Operand)
    (ao : Option Addr) (n cap : Nat) (xs : List ActS) (hs : a.eval s = .slice ao n cap) (hn : xs.length = n) (hown : OwnA w ao cap xs)
    (so : Option Addr) (y : ActS) (c : Nat) (hx : a.eval x = .slice so 1 c) (hsh : Shows w so (cellsA [y])) (hb : n + 1 ≤ 1000000)
    (h : ∀ ao' cap' w', OwnA w' ao' cap' (xs ++ [y]) → Mod (blk ao) w w' → SameOrNew w w' ao ao' → wpList Try.prog ops Q rest (a.put dst (.slice ao' (n + 1) cap')) w') :
    wpList Try.prog ops Q (⟨dst, .call { callee := .builtin .append, args := #[s, x], argTypes := #[22, 22] }, ty, pos, after, none⟩ :: rest) a w := by
  obtain ⟨i0, hi, hz0, hz1, hz2⟩ := info_parts infoActS
  subst hn
  refine wpl_append w rfl s x 22 rfl 32 i0 _ 5 40 Try.underlying22 hi hz0 hz1 hz2 rfl (by decide) ao _ cap _ hs hown so 1 c (cellsA [y]) hx (cellsA_length [y]) hsh ?_ (by unfold maxLen; omega) (by omega) ?_
  · intro u hu
    obtain ⟨x, hx, hu⟩ := List.mem_flatMap.1 hu
    simp only [actC, List.mem_cons, List.not_mem_nil, or_false] at hu
    rcases hu with rfl | rfl | rfl | rfl | rfl <;> rfl
  · intro ao' cap' w' h1 h2 h3
    refine h ao' cap' w' ?_ h2 h3
    unfold OwnA cellsA
    rw [List.length_append, List.flatMap_append]
    exact h1
theorem showsA {w : World} {g : Nat} {x : ActS} {t : TypeId} {z : Nat × Nat} (h : w.heap[g]? = some (.cells (actC x).toArray t z)) : Shows w (some ⟨g, 0, none⟩) (cellsA [x]) := by
  intro j u hj
  refine ⟨_, rfl, ?_⟩
  rw [Addr.add_lit, cell_of_block h, Nat.zero_add]
  have : cellsA [x] = actC x := by simp [cellsA]
  rw [this] at hj
  rw [← hj]
  simp
set_option maxRecDepth 100000 in
set_option maxHeartbeats 1000000 in
theorem great2_any (ao : Option Addr) (len cap : Nat) (l : List ActS) (w : World) (hl : l.length = len) (hlen : len ≤ 9223372036854775807) (hs : SeesA w ao l) (hsz : ∀ x ∈ l, x.2.2.2.2.size ≤ 9223372036854775807) :
    Calls Try.prog 6 #[.slice ao len cap] w fun e w' => ∃ v, e = .returned (.bool v) ∧ Mod [] w w' ∧ (v = false → l.length ≤ 200 ∧ ∀ x ∈ l, x.2.2.2.2.size ≤ 100 ∧ x.2.2.2.1 ≤ 3) := by
  subst hl
  have HS := Lib.hid hs
  have HZ := Lib.hid hsz
  clear hs hsz
  go_enter Try.func6, Try.ntmps6
  go_wp2
  go_loopw [3] (fun i wr => ∃ k : Nat, k ≤ l.length ∧ i = .int .i64 (k : Int) ∧ Mod [] w wr ∧ k ≤ 201 ∧ (∀ x ∈ l.take k, x.2.2.2.2.size ≤ 100 ∧ x.2.2.2.1 ≤ 3)) (fun i _ => l.length - (RowKit.intOf i).toNat)
  case atStart => exact ⟨0, Nat.zero_le _, rfl, Mod.refl _ _, by omega, fun x hx => by simp at hx⟩
  case round =>
    obtain ⟨k, hk, rfl, hm, hk2, hgood⟩ := hrel
    have HM := Lib.hid hm
    have HG := Lib.hid hgood
    clear hgood
    by_cases hlt : k < l.length
    · by_cases h201 : k < 201
      · obtain ⟨b, off, rfl, hc0, hc1, hc2, hc3, hc4⟩ := (HS.out.mod0 hm) k hlt
        have hz := HZ.out l[k] (List.getElem_mem hlt)
        have htk := take_snoc l k hlt
        obtain ⟨⟨kp, ac, aq, cd, t⟩, hlk⟩ : ∃ p, l[k] = p := ⟨_, rfl⟩
        rw [hlk] at hc0 hc1 hc2 hc3 hc4 hz htk
        have HTK := Lib.hid htk
        dsimp only at hc0 hc1 hc2 hc3 hc4 hz
        clear hlk hm htk
        by_cases hts : 100 < t.size
        · go_wp2
          go_ret
          exact .inr ⟨rfl, HM.out⟩
        · by_cases hcd : 3 < cd
          · go_wp2
            go_ret
            exact ⟨true, rfl, HM.out, fun h => by cases h⟩
          · have HG2 : Hid (∀ x ∈ l.take (k + 1), x.2.2.2.2.size ≤ 100 ∧ x.2.2.2.1 ≤ 3) := Lib.hid fun x hx => by
              rw [HTK.out, List.mem_append, List.mem_singleton] at hx
              rcases hx with hx | rfl
              · exact HG.out x hx
              · exact ⟨by dsimp only; omega, by dsimp only; omega⟩
            go_wp2
            go_roundw
            case rel => exact ⟨k + 1, by omega, by go_num, HM.out, by omega, HG2.out⟩
            case measure => simp [RowKit.intOf]; omega
      · clear hm
        have D200 : decide ((200 : Int) < (l.length : Int)) = true := decide_eq_true (by omega)
        go_wp2
        go_ret
        exact ⟨true, rfl, HM.out, fun h => by cases h⟩
    · have hke : k = l.length := by omega
      subst hke
      clear hm
      go_wp2
      go_ret
      refine ⟨_, rfl, HM.out, fun h => ?_⟩
      have := HG.out
      rw [List.take_length] at this
      refine ⟨?_, this⟩
      simp at h
      omega

/-- What an act keeps. -/
def putF (f : Int → Option Ent) (x : ActS) : Int → Option Ent := fun z => if z = x.2.1 then some x.2.2 else f z
def foldA (K : List ActS) : Int → Option Ent := K.foldl putF (fun _ => none)
theorem foldA_snoc (K : List ActS) (x : ActS) : foldA (K ++ [x]) = putF (foldA K) x := by simp [foldA]
theorem lookF_other {f : Int → Option Ent} {x : ActS} {c s : Int} (h : x.2.1 ≠ c) : lookF (putF f x) c s = lookF f c s := by
  unfold lookF putF
  rw [if_neg (fun e => h e.symm)]
theorem lookF_eq {f : Int → Option Ent} {x : ActS} {c s : Int} (h : x.2.1 = c) (h2 : x.2.2.1 = s) : lookF (putF f x) c s = (x.2.2.2, 1) := by
  obtain ⟨a, b, c', d, e⟩ := x
  dsimp only at h h2
  subst h h2
  unfold lookF putF
  rw [if_pos rfl]
  dsimp only
  rw [if_neg (by omega), if_pos rfl]
theorem lookF_gt {f : Int → Option Ent} {x : ActS} {c s : Int} (h : x.2.1 = c) (h2 : s < x.2.2.1) : lookF (putF f x) c s = ((3, ⟨#[]⟩), 2) := by
  obtain ⟨a, b, c', d, e⟩ := x
  dsimp only at h h2
  subst h
  unfold lookF putF
  rw [if_pos rfl]
  dsimp only
  rw [if_neg (by omega), if_neg (by omega)]
theorem lookF_lt {f : Int → Option Ent} {x : ActS} {c s : Int} (h : x.2.1 = c) (h2 : x.2.2.1 < s) : lookF (putF f x) c s = ((0, ⟨#[]⟩), 0) := by
  obtain ⟨a, b, c', d, e⟩ := x
  dsimp only at h h2
  subst h
  unfold lookF putF
  rw [if_pos rfl]
  dsimp only
  rw [if_pos (by omega)]
theorem lookF_zero {f : Int → Option Ent} {c s : Int} (h : (lookF f c s).2 = 0) : (lookF f c s).1 = (0, ⟨#[]⟩) := by
  unfold lookF at h ⊢
  split
  · rfl
  · rename_i q cd t heq
    rw [heq] at h
    dsimp only at h
    split
    · rfl
    · rename_i h1
      rw [if_neg h1] at h
      split at h <;> simp at h
/-- Where the scan of what was kept stands. -/
def ScanI (f : Int → Option Ent) (c s : Int) (what : Int) (want : Int × ByteArray) : Prop := what = (lookF f c s).2 ∧ (what ≠ 0 → want = (lookF f c s).1)
theorem ScanI.end {f : Int → Option Ent} {c s what : Int} {want : Int × ByteArray} (h : ScanI f c s what want) : lookF f c s = (if what = 0 then (0, ⟨#[]⟩) else want, what) := by
  obtain ⟨h1, h2⟩ := h
  by_cases h0 : what = 0
  · rw [if_pos h0]
    have := lookF_zero (h1.symm.trans h0)
    rw [← this, h1]
  · rw [if_neg h0, h2 h0, h1]
/-- What is kept is looked up no more as fresh: another map. -/
theorem keepF_put {f : Int → Option Ent} {kp : Bool} {c s : Int} {r : Int × ByteArray} : keepF f c s r = if c ≠ 0 ∧ (lookF f c s).2 = 0 then putF f (kp, c, s, r) else f := rfl
theorem put_differs {f : Int → Option Ent} {c s : Int} {x : ActS} (hx : x.2.1 = c) (hs : x.2.2.1 = s) (h : (lookF f c s).2 = 0) (hc : (f c).isSome = true) : putF f x c ≠ f c := by
  intro e
  have e1 := lookF_eq (f := f) hx hs
  have : lookF (putF f x) c s = lookF f c s := by unfold lookF; rw [e]
  rw [this] at e1
  rw [e1] at h
  simp at h
def GoodA (x : ActS) : Prop := 0 < x.2.1 ∧ x.2.1 < 4294967296 ∧ 0 ≤ x.2.2.1 ∧ x.2.2.1 < 4294967296 ∧ 0 ≤ x.2.2.2.1 ∧ x.2.2.2.1 ≤ 3 ∧ x.2.2.2.2.size ≤ 100
theorem rows_put {f : Int → Option Ent} {E : List Cl} {x : ActS} (hE : TabE f E) (hG : GoodE E) (hx : GoodA x) : ∃ E', TabE (putF f x) E' ∧ GoodE E' := by
  obtain ⟨kp, c, s, cd, t⟩ := x
  obtain ⟨x1, x2, x3, x4, x5, x6, x7⟩ := hx
  dsimp only at x1 x2 x3 x4 x5 x6 x7
  obtain ⟨c, rfl⟩ := Int.eq_ofNat_of_zero_le (Int.le_of_lt x1)
  obtain ⟨s, rfl⟩ := Int.eq_ofNat_of_zero_le x3
  obtain ⟨cd, rfl⟩ := Int.eq_ofNat_of_zero_le x5
  have hrow : ClOk (c, s, cd, t) := ⟨by dsimp only; omega, by dsimp only; omega, by dsimp only; omega, by dsimp only; omega⟩
  have hp : (E.filter (fun y => decide (y.1 < c)) ++ (c, s, cd, t) :: E.filter (fun y => decide (c < y.1))).Pairwise (fun x y => x.1 < y.1) := by
    rw [List.pairwise_append]
    refine ⟨hE.1.filter _, ?_, ?_⟩
    · rw [List.pairwise_cons]
      refine ⟨fun y hy => ?_, hE.1.filter _⟩
      have := (List.mem_filter.1 hy).2
      simpa using this
    · intro a ha b hb
      have h1 : a.1 < c := by simpa using (List.mem_filter.1 ha).2
      rw [List.mem_cons] at hb
      rcases hb with rfl | hb
      · exact h1
      · have h2 : c < b.1 := by simpa using (List.mem_filter.1 hb).2
        omega
  have hmem : ∀ y, y ∈ (E.filter (fun y => decide (y.1 < c)) ++ (c, s, cd, t) :: E.filter (fun y => decide (c < y.1))) ↔ y = (c, s, cd, t) ∨ (y ∈ E ∧ y.1 ≠ c) := by
    intro y
    rw [List.mem_append, List.mem_cons, List.mem_filter, List.mem_filter]
    simp only [decide_eq_true_eq]
    constructor
    · rintro (⟨h1, h2⟩ | h | ⟨h1, h2⟩)
      · exact .inr ⟨h1, by omega⟩
      · exact .inl h
      · exact .inr ⟨h1, by omega⟩
    · rintro (h | ⟨h1, h2⟩)
      · exact .inr (.inl h)
      · rcases Nat.lt_or_gt_of_ne h2 with h | h
        · exact .inl ⟨h1, h⟩
        · exact .inr (.inr ⟨h1, h⟩)
  refine ⟨_, ⟨hp, fun y hy => ?_, fun z v => ?_⟩, hp, fun y hy => ?_⟩
  · rcases (hmem y).1 hy with rfl | ⟨h, _⟩
    · exact hrow
    · exact hE.2.1 y h
  · unfold putF
    dsimp only
    by_cases hz : z = (c : Int)
    · rw [if_pos hz]
      constructor
      · intro h
        cases h
        exact ⟨_, (hmem _).2 (.inl rfl), hz, rfl⟩
      · rintro ⟨y, hy, e1, rfl⟩
        rcases (hmem y).1 hy with rfl | ⟨_, h⟩
        · rfl
        · exact absurd (by omega) h
    · rw [if_neg hz, hE.2.2]
      constructor
      · rintro ⟨y, hy, e1, e2⟩
        exact ⟨y, (hmem y).2 (.inr ⟨hy, by omega⟩), e1, e2⟩
      · rintro ⟨y, hy, e1, e2⟩
        rcases (hmem y).1 hy with rfl | ⟨h, _⟩
        · exact absurd e1 hz
        · exact ⟨y, h, e1, e2⟩
  · rcases (hmem y).1 hy with rfl | ⟨h, _⟩
    · exact ⟨hrow, by dsimp only; omega, by dsimp only; omega, x7⟩
    · exact hG.2 y h
theorem rows_exist (K : List ActS) : ∀ (f : Int → Option Ent) (E : List Cl), TabE f E → GoodE E → (∀ x ∈ K, GoodA x) → ∃ E', TabE (K.foldl putF f) E' ∧ GoodE E' := by
  induction K with
  | nil => intro f E h1 h2 _; exact ⟨E, h1, h2⟩
  | cons x r ih =>
    intro f E h1 h2 h3
    obtain ⟨E1, a1, a2⟩ := rows_put h1 h2 (h3 x (List.mem_cons_self ..))
    exact ih _ E1 a1 a2 (fun y hy => h3 y (List.mem_cons_of_mem _ hy))
theorem rows_of (K : List ActS) (h : ∀ x ∈ K, GoodA x) : ∃ E, TabE (foldA K) E ∧ GoodE E :=
  rows_exist K _ [] ⟨List.Pairwise.nil, fun x hx => by simp at hx, fun z v => by simp⟩ ⟨List.Pairwise.nil, fun x hx => by simp at hx⟩ h
theorem tabE_one {f g : Int → Option Ent} {E : List Cl} (h1 : TabE f E) (h2 : TabE g E) : f = g := by
  funext z
  refine Option.ext fun v => ?_
  rw [h1.2.2, h2.2.2]
theorem tabB_one {E F : List Cl} {rest : List UInt8} (hE : GoodE E) (hF : GoodE F) (h : tabB E = tabB F ++ rest) (h1 : E.length < 18446744073709551616) (h2 : F.length < 18446744073709551616) : F = E := by
  unfold tabB at h
  have a1 := uintE_write E.length (E.flatMap clB) h1
  rw [h, List.append_assoc, uintE_write F.length _ h2] at a1
  have e1 : F.length = E.length := congrArg Prod.fst a1
  have e2 : F.flatMap clB ++ rest = E.flatMap clB := congrArg (fun p => p.2.2) a1
  have := (rows_unique F E rest (fun x hx => ⟨(hF.2 x hx).1, (hF.2 x hx).2.2.2⟩) (fun x hx => ⟨(hE.2 x hx).1, (hE.2 x hx).2.2.2⟩) (by omega) e2).1
  rw [this, List.take_of_length_le (by omega)]
end Go.Proofs.Ytgneigdcgfiooaa
/- The walk of the law SessionPlays. -/
namespace Go.Proofs.Ytgneigdcgfiooaa
open Go Go.RowKit Go.Lib Go.MapKept

theorem Tab.modC {S : List Nat} {w w' : World} {g b n : Nat} {f : Int → Option Ent} (h : Tab w g b n f) (hm : Mod S w w') (hS : ∀ k, k ∈ S → ∃ c t z, w.heap[k]? = some (.cells c t z) ∧ t ≠ 52 ∧ t ≠ 50) : Tab w' g b n f := by
  obtain ⟨gc, h1, h2, h3⟩ := h
  refine ⟨gc, hm.get h1 ?_, hm.get h2 ?_, h3.mod hm ?_⟩
  · intro hk
    obtain ⟨c, t, z, e1, e2, e3⟩ := hS g hk
    rw [h1] at e1
    cases e1
    exact e2 rfl
  · intro hk
    obtain ⟨c, t, z, e1, e2, e3⟩ := hS gc hk
    rw [h2] at e1
    cases e1
    exact e3 rfl
  · intro hk
    obtain ⟨c, t, z, e1, e2, e3⟩ := hS b hk
    exact h3.cell_ne e1 rfl
theorem Tab.off {w w' : World} {g b n b' n' : Nat} {d : TypeDesc} {f : Int → Option Ent} {F : Value → Option Value} (h : Tab w g b n f) (hb : MapF w b' d n' F) (hne : b ≠ b') (hm : Mod [b'] w w') : Tab w' g b n f := by
  obtain ⟨gc, h1, h2, h3⟩ := h
  have e1 := hb.cell_ne h1
  have e2 := hb.cell_ne h2
  exact ⟨gc, hm.get h1 (by simpa using e1), hm.get h2 (by simpa using e2), h3.mod hm (by simpa using hne)⟩
theorem OwnA.block {w : World} {ao : Option Addr} {cap : Nat} {l : List ActS} (h : OwnA w ao cap l) : ∀ k, k ∈ blk ao → ∃ c z, w.heap[k]? = some (.cells c 32 z) := by
  intro k hk
  rcases h.2 with ⟨rfl, _⟩ | ⟨g, cur, fz, rfl, hg, _⟩
  · simp [blk] at hk
  · simp only [blk, List.mem_singleton] at hk
    subst hk
    exact ⟨_, _, hg⟩
theorem OwnA.off {w w' : World} {ao : Option Addr} {cap b' n' : Nat} {d : TypeDesc} {F : Value → Option Value} {l : List ActS} (h : OwnA w ao cap l) (hb : MapF w b' d n' F) (hm : Mod [b'] w w') : OwnA w' ao cap l :=
  h.mod hm (fun k hk hk2 => by
    obtain ⟨c, z, e⟩ := h.block k hk
    rw [List.mem_singleton] at hk2
    exact hb.cell_ne e hk2)
theorem Own.capLe {w : World} {e : TypeId} {sz : Nat} {ao : Option Addr} {n cap : Nat} {xs : List Value} (h : Own w e sz ao n cap xs) : cap ≤ maxLen := by
  rcases h.2 with ⟨_, _, rfl⟩ | ⟨g, cur, fz, rfl, hg, hz, hn, hm, _⟩
  · exact Nat.zero_le _
  · exact hm
theorem twoR_set {w : World} {g : Nat} {t : TypeId} {a b : Value} (h : w.heap[g]? = some (.cells #[a, b] t (0, 0))) (u v : Value) :
    ((w.setCell ⟨g, 0, none⟩ u).setCell ⟨g, 1, none⟩ v).heap[g]? = some (.cells #[u, v] t (0, 0)) := by
  rw [heap_setCell_same (heap_setCell_same h u) v]; rfl
set_option maxRecDepth 100000 in
set_option maxHeartbeats 8000000 in
theorem sessionPlays_any (ao : Option Addr) (len cap : Nat) (l : List ActS) (w : World) (hl : l.length = len) (hlen : len ≤ 9223372036854775807) (hs : SeesA w ao l)
    (hsz : ∀ x ∈ l, x.2.2.2.2.size ≤ 9223372036854775807 ∧ 0 ≤ x.2.1 ∧ x.2.1 < 4294967296 ∧ 0 ≤ x.2.2.1 ∧ x.2.2.1 < 4294967296 ∧ 0 ≤ x.2.2.2.1) :
    Calls Try.prog 5 #[.slice ao len cap] w fun e w' => e = .returned (.bool true) ∧ Mod [] w w' := by
  subst hl
  have HS := Lib.hid hs
  have HZ := Lib.hid hsz
  clear hs hsz
  go_enter Try.func5, Try.ntmps5
  go_wp2_with fail
  refine (great2_any ao _ cap l _ rfl hlen HS.out (fun x hx => (HZ.out x hx).1)).mono ?_
  rintro e w1 ⟨v, rfl, m1, hv⟩
  have M1 := Lib.hid m1
  have HV := Lib.hid hv
  clear m1 hv
  cases v with
  | true =>
    go_wp2_with fail
    refine (wakes10_any _).mono ?_
    rintro e w9 ⟨rfl, m9⟩
    have M9 := Lib.hid (M1.out.trans' m9)
    clear m9
    go_wp2
    go_ret
    exact ⟨rfl, M9.out⟩
  | false =>
    obtain ⟨hl200, hgd⟩ := HV.out rfl
    have HGD := Lib.hid hgd
    clear hgd HV
    go_wp2_with fail
    refine (new_any _).mono ?_
    rintro e w2 ⟨g, b, rfl, t2, m2, z2⟩
    have T2 := Lib.hid t2
    have M2 := Lib.hid (M1.out.trans' m2)
    have Z := Lib.hid (Nat.le_trans M1.out.size z2)
    clear t2 m2 z2 M1
    go_wp2_with fail
    go_loopw [4, 5] (fun s4 s5 wr => ∃ (k n : Nat) (K : List ActS) (ka : Option Addr) (kc : Nat), k ≤ l.length ∧ s5 = .int .i64 (k : Int) ∧ s4 = .slice ka K.length kc ∧ K.length ≤ k ∧ n ≤ k ∧ OwnA wr ka kc K ∧ (∀ x, x ∈ blk ka → w.heap.size ≤ x) ∧ (∀ x ∈ K, GoodA x) ∧ Tab wr g b n (foldA K) ∧ Mod [] w wr) (fun _ s5 _ => l.length - (RowKit.intOf s5).toNat)
    case atStart => exact ⟨0, 0, [], none, 0, Nat.zero_le _, rfl, rfl, Nat.le_refl _, Nat.le_refl _, Own.nil0 _ _ _, fun x hx => by simp [blk] at hx, fun x hx => by simp at hx, T2.out, M2.out⟩
    case round =>
      obtain ⟨k, n, K, ka, kc, hk, rfl, rfl, hKk, hnk, hO, hB, hGK, hT, hM⟩ := hrel
      have HKK := Lib.hid hKk
      have HNK := Lib.hid hnk
      have HO := Lib.hid hO
      have HB := Lib.hid hB
      have HGK := Lib.hid hGK
      have HT := Lib.hid hT
      have HM := Lib.hid hM
      clear hO hB hGK hT hM T2 M2 hKk hnk
      by_cases hlt : k < l.length
      · obtain ⟨bl, off, hao, hv0, hv1, hv2, hv3, hv4⟩ := (HS.out.mod0 HM.out) k hlt
        subst hao
        have hz := HZ.out l[k] (List.getElem_mem hlt)
        have hgd := HGD.out l[k] (List.getElem_mem hlt)
        obtain ⟨⟨kp, c, s, cd, t⟩, hlk⟩ : ∃ p, l[k] = p := ⟨_, rfl⟩
        rw [hlk] at hv0 hv1 hv2 hv3 hv4 hz hgd
        dsimp only at hv0 hv1 hv2 hv3 hv4 hz hgd
        have HZ1 := Lib.hid hz
        have HGD1 := Lib.hid hgd
        clear hlk hz hgd
        go_upto_region 10 with (fail)
        obtain ⟨ga, hga⟩ : ∃ q, wr.heap.size = q := ⟨_, rfl⟩
        obtain ⟨gw, hgw⟩ : ∃ q, ga + 1 = q := ⟨_, rfl⟩
        obtain ⟨w5, hw5, x5, y5, m5⟩ : ∃ w5, (wr.alloc (.cells #[.bool kp, .int .u32 c, .int .u32 s, .int .u8 cd, .string t] 32)).alloc (.cells #[.int .u8 0, .string ⟨#[]⟩] 25) = w5 ∧ w5.heap[ga]? = some (.cells #[.bool kp, .int .u32 c, .int .u32 s, .int .u8 cd, .string t] 32 (0, 0)) ∧ w5.heap[gw]? = some (.cells #[.int .u8 0, .string ⟨#[]⟩] 25 (0, 0)) ∧ Mod [] wr w5 := by
          refine ⟨_, rfl, ?_, ?_, (Mod.alloc _ _ _).trans' (Mod.alloc _ _ _)⟩
          · rw [← hga]
            exact (Mod.alloc [] _ _).get (heap_alloc_new wr _) List.not_mem_nil
          · have := heap_alloc_new (wr.alloc (.cells #[.bool kp, .int .u32 c, .int .u32 s, .int .u8 cd, .string t] 32)) (.cells #[.int .u8 0, .string ⟨#[]⟩] 25)
            rw [World.size_alloc, hga, hgw] at this
            exact this
        rw [hw5]
        rw [hga]
        rw [hgw]
        have HGA := Lib.hid hga
        have HGW := Lib.hid hgw
        have X5 := Lib.hid x5
        have Y5 := Lib.hid y5
        have M5 := Lib.hid m5
        have HNG : Hid (ga ≠ gw) := Lib.hid (by omega)
        have HKG : Hid (∀ x, x ∈ blk ka → x ≠ gw ∧ x ≠ ga) := Lib.hid fun x hx => by have := HO.out.lt x hx; omega
        have HBW : Hid (b < ga) := Lib.hid (by obtain ⟨_, _, _, h3⟩ := HT.out; have := h3.lt; omega)
        have hww : wr.heap.size ≤ gw := by omega
        clear hw5 hga hgw hv0 hv1 hv2 hv3 hv4 x5 y5 m5
        go_wp2_with fail
        go_loopw [8, 9, 10] (fun s8 s9 s10 wi => ∃ (j : Nat) (what wc z : Int) (wt : ByteArray), j ≤ K.length ∧ s8 = .int .u8 what ∧ s9 = .int .i64 z ∧ s10 = .int .i64 (j : Int) ∧ wi.heap[gw]? = some (.cells #[.int .u8 wc, .string wt] 25 (0, 0)) ∧ Mod [gw] w5 wi ∧ ScanI (foldA (K.take j)) c s what (wc, wt)) (fun _ _ s10 _ => K.length - (RowKit.intOf s10).toNat)
        case atStart => exact ⟨0, 0, 0, 0, ⟨#[]⟩, Nat.zero_le _, rfl, rfl, rfl, Y5.out, Mod.refl _ _, rfl, fun h => absurd rfl h⟩
        case round =>
          rename World => wi
          obtain ⟨j, what, wc, z, wt, hj, rfl, rfl, rfl, hgwi, hmi, hsc⟩ := hrel
          have Yi := Lib.hid hgwi
          have Mi := Lib.hid hmi
          have HSC := Lib.hid hsc
          have HOi := Lib.hid ((HO.out.mod0 M5.out).mod hmi (fun x hx hx2 => (HKG.out x hx).1 (by simpa using hx2)))
          have Xi := Lib.hid (hmi.get X5.out (by simpa using HNG.out))
          clear hgwi hmi hsc
          have A1 := Lib.hid (cell_of_block (i := 1) Xi.out)
          have A2 := Lib.hid (cell_of_block (i := 2) Xi.out)
          by_cases hjl : j < K.length
          · obtain ⟨gk, hka, k1, k2, k3, k4⟩ := HOi.out.at' hjl
            have hkg : gk ≠ gw := (HKG.out gk (by rw [hka]; simp [blk])).1
            subst hka
            have htk := take_snoc K j hjl
            obtain ⟨⟨kp', c', s', cd', t'⟩, hx⟩ : ∃ p, K[j] = p := ⟨_, rfl⟩
            rw [hx] at k1 k2 k3 k4 htk
            dsimp only at k1 k2 k3 k4
            have HTK : Hid (foldA (K.take (j + 1)) = putF (foldA (K.take j)) (kp', c', s', cd', t')) := Lib.hid (by rw [htk, foldA_snoc])
            have K1 := Lib.hid k1
            have K2 := Lib.hid k2
            have K3 := Lib.hid k3
            have K4 := Lib.hid k4
            have HKL := Lib.hid (Own.le HOi.out)
            have HKC := Lib.hid (Own.capLe HOi.out)
            have hkl := HKL.out
            have hkc := HKC.out
            unfold maxLen at hkc
            clear hx htk k1 k2 k3 k4
            by_cases hcl : c' = c
            · have DC : (c' != c) = false := by simp [hcl]
              go_upto_region 14 with (fail)
              refine rest_start [] 8 #[false, false, false, false, false, false, false, false] rfl (by kernel_rfl) (by kernel_rfl) ?_
              intro w6 m6
              have P1 := Lib.hid (m6.cell K1.out List.not_mem_nil)
              have P2 := Lib.hid (m6.cell K2.out List.not_mem_nil)
              have P3 := Lib.hid (m6.cell K3.out List.not_mem_nil)
              have P4 := Lib.hid (m6.cell K4.out List.not_mem_nil)
              have B1 := Lib.hid (m6.cell A1.out List.not_mem_nil)
              have B2 := Lib.hid (m6.cell A2.out List.not_mem_nil)
              have Y6 := Lib.hid (m6.get Yi.out List.not_mem_nil)
              have M6 := Lib.hid (Mi.out.trans' m6.nil)
              clear m6 K1 K2 K3 K4 A1 A2
              refine rest_got (i := 0) (v := ?v1) rfl (by kernel_rfl) (by kernel_rfl) (by kernel_rfl) (fun _ _ _ h => h) (by rfl) ?y1 ?r1
              case y1 => (intro w9q hSwq; clear hSwq; go_simp; with_reducible rfl)
              try simp only [Act.put, List.setIfInBounds_toArray, List.set_cons_zero, List.set_cons_succ]
              refine rest_got (i := 1) (v := ?v2) rfl (by kernel_rfl) (by kernel_rfl) (by kernel_rfl) (fun _ _ _ h => h) (by rfl) ?y2 ?r2
              case y2 => (intro w9q hSwq; clear hSwq; go_simp; with_reducible rfl)
              try simp only [Act.put, List.setIfInBounds_toArray, List.set_cons_zero, List.set_cons_succ]
              refine rest_got (i := 2) (v := ?v3) rfl (by kernel_rfl) (by kernel_rfl) (by kernel_rfl) (fun _ _ _ h => h) (by rfl) ?y3 ?r3
              case y3 => (intro w9q hSwq; clear hSwq; go_simp; with_reducible rfl)
              try simp only [Act.put, List.setIfInBounds_toArray, List.set_cons_zero, List.set_cons_succ]
              refine rest_got (i := 3) (v := ?v4) rfl (by kernel_rfl) (by kernel_rfl) (by kernel_rfl) (fun _ _ _ h => h) (by rfl) ?y4 ?r4
              case y4 => (intro w9q hSwq; clear hSwq; go_simp; with_reducible rfl)
              try simp only [Act.put, List.setIfInBounds_toArray, List.set_cons_zero, List.set_cons_succ]
              refine rest_got (i := 4) (v := ?v5) rfl (by kernel_rfl) (by kernel_rfl) (by kernel_rfl) (fun _ _ _ h => h) (by rfl) ?y5 ?r5
              case y5 => ((intro w9' hm9'; have hc9' := Mod.cell hm9' P1.out (by first | exact List.not_mem_nil | assumption | (simp; done) | (simp; omega)); clear hm9'; go_simp; with_reducible rfl))
              try simp only [Act.put, List.setIfInBounds_toArray, List.set_cons_zero, List.set_cons_succ]
              refine rest_got (i := 5) (v := ?v6) rfl (by kernel_rfl) (by kernel_rfl) (by kernel_rfl) (fun _ _ _ h => h) (by rfl) ?y6 ?r6
              case y6 => (intro w9q hSwq; clear hSwq; go_simp; with_reducible rfl)
              try simp only [Act.put, List.setIfInBounds_toArray, List.set_cons_zero, List.set_cons_succ]
              refine rest_got (i := 6) (v := ?v7) rfl (by kernel_rfl) (by kernel_rfl) (by kernel_rfl) (fun _ _ _ h => h) (by rfl) ?y7 ?r7
              case y7 => ((intro w9' hm9'; have hc9' := Mod.cell hm9' B1.out (by first | exact List.not_mem_nil | assumption | (simp; done) | (simp; omega)); clear hm9'; go_simp; with_reducible rfl))
              try simp only [Act.put, List.setIfInBounds_toArray, List.set_cons_zero, List.set_cons_succ]
              refine rest_got (i := 7) (v := ?v8) rfl (by kernel_rfl) (by kernel_rfl) (by kernel_rfl) (fun _ _ _ h => h) (by rfl) ?y8 ?r8
              case y8 => (intro w9q hSwq; clear hSwq; go_simp; with_reducible rfl)
              try simp only [Act.put, List.setIfInBounds_toArray, List.set_cons_zero, List.set_cons_succ]
              refine rest_done (by kernel_rfl) ?_ _
              by_cases heq : s' = s
              · have DS : (s' == s) = true := by simp [heq]
                have HSN : Hid (ScanI (foldA (K.take (j + 1))) c s 1 (cd', t')) := Lib.hid (by rw [HTK.out]; unfold ScanI; rw [lookF_eq hcl heq]; exact ⟨rfl, fun _ => rfl⟩)
                go_upto_region 17 with (fail)
                refine rest_start [] 8 #[false, false, false, false, false, false, false, false] rfl (by kernel_rfl) (by kernel_rfl) ?_
                intro w7 m7
                have Q2 := Lib.hid (m7.cell P2.out List.not_mem_nil)
                have Q3 := Lib.hid (m7.cell P3.out List.not_mem_nil)
                have Q4 := Lib.hid (m7.cell P4.out List.not_mem_nil)
                have C2 := Lib.hid (m7.cell B2.out List.not_mem_nil)
                have Y7 := Lib.hid (m7.get Y6.out List.not_mem_nil)
                have M7 := Lib.hid (M6.out.trans' m7.nil)
                clear m7 P2 P3 P4 B2 P1 B1 Y6 M6
                refine rest_got (i := 0) (v := ?v9) rfl (by kernel_rfl) (by kernel_rfl) (by kernel_rfl) (fun _ _ _ h => h) (by rfl) ?y9 ?r9
                case y9 => (intro w9q hSwq; clear hSwq; go_simp; with_reducible rfl)
                try simp only [Act.put, List.setIfInBounds_toArray, List.set_cons_zero, List.set_cons_succ]
                refine rest_got (i := 1) (v := ?v10) rfl (by kernel_rfl) (by kernel_rfl) (by kernel_rfl) (fun _ _ _ h => h) (by rfl) ?y10 ?r10
                case y10 => (intro w9q hSwq; clear hSwq; go_simp; with_reducible rfl)
                try simp only [Act.put, List.setIfInBounds_toArray, List.set_cons_zero, List.set_cons_succ]
                refine rest_got (i := 2) (v := ?v11) rfl (by kernel_rfl) (by kernel_rfl) (by kernel_rfl) (fun _ _ _ h => h) (by rfl) ?y11 ?r11
                case y11 => (intro w9q hSwq; clear hSwq; go_simp; with_reducible rfl)
                try simp only [Act.put, List.setIfInBounds_toArray, List.set_cons_zero, List.set_cons_succ]
                refine rest_got (i := 3) (v := ?v12) rfl (by kernel_rfl) (by kernel_rfl) (by kernel_rfl) (fun _ _ _ h => h) (by rfl) ?y12 ?r12
                case y12 => (intro w9q hSwq; clear hSwq; go_simp; with_reducible rfl)
                try simp only [Act.put, List.setIfInBounds_toArray, List.set_cons_zero, List.set_cons_succ]
                refine rest_got (i := 4) (v := ?v13) rfl (by kernel_rfl) (by kernel_rfl) (by kernel_rfl) (fun _ _ _ h => h) (by rfl) ?y13 ?r13
                case y13 => ((intro w9' hm9'; have hc9' := Mod.cell hm9' Q2.out (by first | exact List.not_mem_nil | assumption | (simp; done) | (simp; omega)); clear hm9'; go_simp; with_reducible rfl))
                try simp only [Act.put, List.setIfInBounds_toArray, List.set_cons_zero, List.set_cons_succ]
                refine rest_got (i := 5) (v := ?v14) rfl (by kernel_rfl) (by kernel_rfl) (by kernel_rfl) (fun _ _ _ h => h) (by rfl) ?y14 ?r14
                case y14 => (intro w9q hSwq; clear hSwq; go_simp; with_reducible rfl)
                try simp only [Act.put, List.setIfInBounds_toArray, List.set_cons_zero, List.set_cons_succ]
                refine rest_got (i := 6) (v := ?v15) rfl (by kernel_rfl) (by kernel_rfl) (by kernel_rfl) (fun _ _ _ h => h) (by rfl) ?y15 ?r15
                case y15 => ((intro w9' hm9'; have hc9' := Mod.cell hm9' C2.out (by first | exact List.not_mem_nil | assumption | (simp; done) | (simp; omega)); clear hm9'; go_simp; with_reducible rfl))
                try simp only [Act.put, List.setIfInBounds_toArray, List.set_cons_zero, List.set_cons_succ]
                refine rest_got (i := 7) (v := ?v16) rfl (by kernel_rfl) (by kernel_rfl) (by kernel_rfl) (fun _ _ _ h => h) (by rfl) ?y16 ?r16
                case y16 => (intro w9q hSwq; clear hSwq; go_simp; with_reducible rfl)
                try simp only [Act.put, List.setIfInBounds_toArray, List.set_cons_zero, List.set_cons_succ]
                refine rest_done (by kernel_rfl) ?_ _
                have q3 := Q3.out
                have q4 := Q4.out
                have y0 := cell_of_block (i := 0) Y7.out
                have y1 := cell_of_block (i := 1) Y7.out
                have f0 := free_of_block (i := 0) Y7.out
                have f1 := free_of_block (i := 1) Y7.out
                have hlw := lt_of_block Y7.out
                clear DC
                go_wp2
                go_roundw
                case rel => exact ⟨j + 1, 1, cd', _, t', by omega, rfl, rfl, by go_num, twoR_set Y7.out _ _, M7.out.trans' (two_mod _ _ _ _), HSN.out⟩
                case measure => first | (simp [RowKit.intOf]; done) | (simp [RowKit.intOf]; omega)
              · have DS : (s' == s) = false := by simpa using heq
                by_cases hgt : s < s'
                · have DG : decide (s < s') = true := decide_eq_true hgt
                  have HSN : Hid (ScanI (foldA (K.take (j + 1))) c s 2 (3, ⟨#[]⟩)) := Lib.hid (by rw [HTK.out]; unfold ScanI; rw [lookF_gt hcl hgt]; exact ⟨rfl, fun _ => rfl⟩)
                  go_upto_region 17 with (fail)
                  refine rest_start [] 8 #[false, false, false, false, false, false, false, false] rfl (by kernel_rfl) (by kernel_rfl) ?_
                  intro w7 m7
                  have Q2 := Lib.hid (m7.cell P2.out List.not_mem_nil)
                  have C2 := Lib.hid (m7.cell B2.out List.not_mem_nil)
                  have Y7 := Lib.hid (m7.get Y6.out List.not_mem_nil)
                  have M7 := Lib.hid (M6.out.trans' m7.nil)
                  clear m7 P2 P3 P4 B2 P1 B1 Y6 M6
                  refine rest_got (i := 0) (v := ?v17) rfl (by kernel_rfl) (by kernel_rfl) (by kernel_rfl) (fun _ _ _ h => h) (by rfl) ?y17 ?r17
                  case y17 => (intro w9q hSwq; clear hSwq; go_simp; with_reducible rfl)
                  try simp only [Act.put, List.setIfInBounds_toArray, List.set_cons_zero, List.set_cons_succ]
                  refine rest_got (i := 1) (v := ?v18) rfl (by kernel_rfl) (by kernel_rfl) (by kernel_rfl) (fun _ _ _ h => h) (by rfl) ?y18 ?r18
                  case y18 => (intro w9q hSwq; clear hSwq; go_simp; with_reducible rfl)
                  try simp only [Act.put, List.setIfInBounds_toArray, List.set_cons_zero, List.set_cons_succ]
                  refine rest_got (i := 2) (v := ?v19) rfl (by kernel_rfl) (by kernel_rfl) (by kernel_rfl) (fun _ _ _ h => h) (by rfl) ?y19 ?r19
                  case y19 => (intro w9q hSwq; clear hSwq; go_simp; with_reducible rfl)
                  try simp only [Act.put, List.setIfInBounds_toArray, List.set_cons_zero, List.set_cons_succ]
                  refine rest_got (i := 3) (v := ?v20) rfl (by kernel_rfl) (by kernel_rfl) (by kernel_rfl) (fun _ _ _ h => h) (by rfl) ?y20 ?r20
                  case y20 => (intro w9q hSwq; clear hSwq; go_simp; with_reducible rfl)
                  try simp only [Act.put, List.setIfInBounds_toArray, List.set_cons_zero, List.set_cons_succ]
                  refine rest_got (i := 4) (v := ?v21) rfl (by kernel_rfl) (by kernel_rfl) (by kernel_rfl) (fun _ _ _ h => h) (by rfl) ?y21 ?r21
                  case y21 => ((intro w9' hm9'; have hc9' := Mod.cell hm9' Q2.out (by first | exact List.not_mem_nil | assumption | (simp; done) | (simp; omega)); clear hm9'; go_simp; with_reducible rfl))
                  try simp only [Act.put, List.setIfInBounds_toArray, List.set_cons_zero, List.set_cons_succ]
                  refine rest_got (i := 5) (v := ?v22) rfl (by kernel_rfl) (by kernel_rfl) (by kernel_rfl) (fun _ _ _ h => h) (by rfl) ?y22 ?r22
                  case y22 => (intro w9q hSwq; clear hSwq; go_simp; with_reducible rfl)
                  try simp only [Act.put, List.setIfInBounds_toArray, List.set_cons_zero, List.set_cons_succ]
                  refine rest_got (i := 6) (v := ?v23) rfl (by kernel_rfl) (by kernel_rfl) (by kernel_rfl) (fun _ _ _ h => h) (by rfl) ?y23 ?r23
                  case y23 => ((intro w9' hm9'; have hc9' := Mod.cell hm9' C2.out (by first | exact List.not_mem_nil | assumption | (simp; done) | (simp; omega)); clear hm9'; go_simp; with_reducible rfl))
                  try simp only [Act.put, List.setIfInBounds_toArray, List.set_cons_zero, List.set_cons_succ]
                  refine rest_got (i := 7) (v := ?v24) rfl (by kernel_rfl) (by kernel_rfl) (by kernel_rfl) (fun _ _ _ h => h) (by rfl) ?y24 ?r24
                  case y24 => (intro w9q hSwq; clear hSwq; go_simp; with_reducible rfl)
                  try simp only [Act.put, List.setIfInBounds_toArray, List.set_cons_zero, List.set_cons_succ]
                  refine rest_done (by kernel_rfl) ?_ _
                  go_upto_region 20 with (fail)
                  refine rest_start [] 8 #[false, false, false, false, false, false, false, false] rfl (by kernel_rfl) (by kernel_rfl) ?_
                  intro w8 m8
                  have R2 := Lib.hid (m8.cell Q2.out List.not_mem_nil)
                  have E2 := Lib.hid (m8.cell C2.out List.not_mem_nil)
                  have Y8 := Lib.hid (m8.get Y7.out List.not_mem_nil)
                  have M8 := Lib.hid (M7.out.trans' m8.nil)
                  clear m8 Q2 C2 Y7 M7
                  refine rest_got (i := 0) (v := ?v25) rfl (by kernel_rfl) (by kernel_rfl) (by kernel_rfl) (fun _ _ _ h => h) (by rfl) ?y25 ?r25
                  case y25 => (intro w9q hSwq; clear hSwq; go_simp; with_reducible rfl)
                  try simp only [Act.put, List.setIfInBounds_toArray, List.set_cons_zero, List.set_cons_succ]
                  refine rest_got (i := 1) (v := ?v26) rfl (by kernel_rfl) (by kernel_rfl) (by kernel_rfl) (fun _ _ _ h => h) (by rfl) ?y26 ?r26
                  case y26 => (intro w9q hSwq; clear hSwq; go_simp; with_reducible rfl)
                  try simp only [Act.put, List.setIfInBounds_toArray, List.set_cons_zero, List.set_cons_succ]
                  refine rest_got (i := 2) (v := ?v27) rfl (by kernel_rfl) (by kernel_rfl) (by kernel_rfl) (fun _ _ _ h => h) (by rfl) ?y27 ?r27
                  case y27 => (intro w9q hSwq; clear hSwq; go_simp; with_reducible rfl)
                  try simp only [Act.put, List.setIfInBounds_toArray, List.set_cons_zero, List.set_cons_succ]
                  refine rest_got (i := 3) (v := ?v28) rfl (by kernel_rfl) (by kernel_rfl) (by kernel_rfl) (fun _ _ _ h => h) (by rfl) ?y28 ?r28
                  case y28 => (intro w9q hSwq; clear hSwq; go_simp; with_reducible rfl)
                  try simp only [Act.put, List.setIfInBounds_toArray, List.set_cons_zero, List.set_cons_succ]
                  refine rest_got (i := 4) (v := ?v29) rfl (by kernel_rfl) (by kernel_rfl) (by kernel_rfl) (fun _ _ _ h => h) (by rfl) ?y29 ?r29
                  case y29 => ((intro w9' hm9'; have hc9' := Mod.cell hm9' R2.out (by first | exact List.not_mem_nil | assumption | (simp; done) | (simp; omega)); clear hm9'; go_simp; with_reducible rfl))
                  try simp only [Act.put, List.setIfInBounds_toArray, List.set_cons_zero, List.set_cons_succ]
                  refine rest_got (i := 5) (v := ?v30) rfl (by kernel_rfl) (by kernel_rfl) (by kernel_rfl) (fun _ _ _ h => h) (by rfl) ?y30 ?r30
                  case y30 => (intro w9q hSwq; clear hSwq; go_simp; with_reducible rfl)
                  try simp only [Act.put, List.setIfInBounds_toArray, List.set_cons_zero, List.set_cons_succ]
                  refine rest_got (i := 6) (v := ?v31) rfl (by kernel_rfl) (by kernel_rfl) (by kernel_rfl) (fun _ _ _ h => h) (by rfl) ?y31 ?r31
                  case y31 => ((intro w9' hm9'; have hc9' := Mod.cell hm9' E2.out (by first | exact List.not_mem_nil | assumption | (simp; done) | (simp; omega)); clear hm9'; go_simp; with_reducible rfl))
                  try simp only [Act.put, List.setIfInBounds_toArray, List.set_cons_zero, List.set_cons_succ]
                  refine rest_got (i := 7) (v := ?v32) rfl (by kernel_rfl) (by kernel_rfl) (by kernel_rfl) (fun _ _ _ h => h) (by rfl) ?y32 ?r32
                  case y32 => (intro w9q hSwq; clear hSwq; go_simp; with_reducible rfl)
                  try simp only [Act.put, List.setIfInBounds_toArray, List.set_cons_zero, List.set_cons_succ]
                  refine rest_done (by kernel_rfl) ?_ _
                  have y0 := cell_of_block (i := 0) Y8.out
                  have y1 := cell_of_block (i := 1) Y8.out
                  have f0 := free_of_block (i := 0) Y8.out
                  have f1 := free_of_block (i := 1) Y8.out
                  have hlw := lt_of_block Y8.out
                  clear DC DS
                  go_wp2
                  go_roundw
                  case rel => exact ⟨j + 1, 2, 3, _, ⟨#[]⟩, by omega, rfl, rfl, by go_num, twoR_set Y8.out _ _, M8.out.trans' (two_mod _ _ _ _), HSN.out⟩
                  case measure => first | (simp [RowKit.intOf]; done) | (simp [RowKit.intOf]; omega)
                · have DG : decide (s < s') = false := decide_eq_false hgt
                  have HSN : Hid (ScanI (foldA (K.take (j + 1))) c s 0 (wc, wt)) := Lib.hid (by rw [HTK.out]; unfold ScanI; rw [lookF_lt hcl (by show s' < s; omega)]; exact ⟨rfl, fun h => absurd rfl h⟩)
                  go_upto_region 17 with (fail)
                  refine rest_start [] 8 #[false, false, false, false, false, false, false, false] rfl (by kernel_rfl) (by kernel_rfl) ?_
                  intro w7 m7
                  have Q2 := Lib.hid (m7.cell P2.out List.not_mem_nil)
                  have C2 := Lib.hid (m7.cell B2.out List.not_mem_nil)
                  have Y7 := Lib.hid (m7.get Y6.out List.not_mem_nil)
                  have M7 := Lib.hid (M6.out.trans' m7.nil)
                  clear m7 P2 P3 P4 B2 P1 B1 Y6 M6
                  refine rest_got (i := 0) (v := ?v33) rfl (by kernel_rfl) (by kernel_rfl) (by kernel_rfl) (fun _ _ _ h => h) (by rfl) ?y33 ?r33
                  case y33 => (intro w9q hSwq; clear hSwq; go_simp; with_reducible rfl)
                  try simp only [Act.put, List.setIfInBounds_toArray, List.set_cons_zero, List.set_cons_succ]
                  refine rest_got (i := 1) (v := ?v34) rfl (by kernel_rfl) (by kernel_rfl) (by kernel_rfl) (fun _ _ _ h => h) (by rfl) ?y34 ?r34
                  case y34 => (intro w9q hSwq; clear hSwq; go_simp; with_reducible rfl)
                  try simp only [Act.put, List.setIfInBounds_toArray, List.set_cons_zero, List.set_cons_succ]
                  refine rest_got (i := 2) (v := ?v35) rfl (by kernel_rfl) (by kernel_rfl) (by kernel_rfl) (fun _ _ _ h => h) (by rfl) ?y35 ?r35
                  case y35 => (intro w9q hSwq; clear hSwq; go_simp; with_reducible rfl)
                  try simp only [Act.put, List.setIfInBounds_toArray, List.set_cons_zero, List.set_cons_succ]
                  refine rest_got (i := 3) (v := ?v36) rfl (by kernel_rfl) (by kernel_rfl) (by kernel_rfl) (fun _ _ _ h => h) (by rfl) ?y36 ?r36
                  case y36 => (intro w9q hSwq; clear hSwq; go_simp; with_reducible rfl)
                  try simp only [Act.put, List.setIfInBounds_toArray, List.set_cons_zero, List.set_cons_succ]
                  refine rest_got (i := 4) (v := ?v37) rfl (by kernel_rfl) (by kernel_rfl) (by kernel_rfl) (fun _ _ _ h => h) (by rfl) ?y37 ?r37
                  case y37 => ((intro w9' hm9'; have hc9' := Mod.cell hm9' Q2.out (by first | exact List.not_mem_nil | assumption | (simp; done) | (simp; omega)); clear hm9'; go_simp; with_reducible rfl))
                  try simp only [Act.put, List.setIfInBounds_toArray, List.set_cons_zero, List.set_cons_succ]
                  refine rest_got (i := 5) (v := ?v38) rfl (by kernel_rfl) (by kernel_rfl) (by kernel_rfl) (fun _ _ _ h => h) (by rfl) ?y38 ?r38
                  case y38 => (intro w9q hSwq; clear hSwq; go_simp; with_reducible rfl)
                  try simp only [Act.put, List.setIfInBounds_toArray, List.set_cons_zero, List.set_cons_succ]
                  refine rest_got (i := 6) (v := ?v39) rfl (by kernel_rfl) (by kernel_rfl) (by kernel_rfl) (fun _ _ _ h => h) (by rfl) ?y39 ?r39
                  case y39 => ((intro w9' hm9'; have hc9' := Mod.cell hm9' C2.out (by first | exact List.not_mem_nil | assumption | (simp; done) | (simp; omega)); clear hm9'; go_simp; with_reducible rfl))
                  try simp only [Act.put, List.setIfInBounds_toArray, List.set_cons_zero, List.set_cons_succ]
                  refine rest_got (i := 7) (v := ?v40) rfl (by kernel_rfl) (by kernel_rfl) (by kernel_rfl) (fun _ _ _ h => h) (by rfl) ?y40 ?r40
                  case y40 => (intro w9q hSwq; clear hSwq; go_simp; with_reducible rfl)
                  try simp only [Act.put, List.setIfInBounds_toArray, List.set_cons_zero, List.set_cons_succ]
                  refine rest_done (by kernel_rfl) ?_ _
                  go_upto_region 20 with (fail)
                  refine rest_start [] 8 #[false, false, false, false, false, false, false, false] rfl (by kernel_rfl) (by kernel_rfl) ?_
                  intro w8 m8
                  have R2 := Lib.hid (m8.cell Q2.out List.not_mem_nil)
                  have E2 := Lib.hid (m8.cell C2.out List.not_mem_nil)
                  have Y8 := Lib.hid (m8.get Y7.out List.not_mem_nil)
                  have M8 := Lib.hid (M7.out.trans' m8.nil)
                  clear m8 Q2 C2 Y7 M7
                  refine rest_got (i := 0) (v := ?v41) rfl (by kernel_rfl) (by kernel_rfl) (by kernel_rfl) (fun _ _ _ h => h) (by rfl) ?y41 ?r41
                  case y41 => (intro w9q hSwq; clear hSwq; go_simp; with_reducible rfl)
                  try simp only [Act.put, List.setIfInBounds_toArray, List.set_cons_zero, List.set_cons_succ]
                  refine rest_got (i := 1) (v := ?v42) rfl (by kernel_rfl) (by kernel_rfl) (by kernel_rfl) (fun _ _ _ h => h) (by rfl) ?y42 ?r42
                  case y42 => (intro w9q hSwq; clear hSwq; go_simp; with_reducible rfl)
                  try simp only [Act.put, List.setIfInBounds_toArray, List.set_cons_zero, List.set_cons_succ]
                  refine rest_got (i := 2) (v := ?v43) rfl (by kernel_rfl) (by kernel_rfl) (by kernel_rfl) (fun _ _ _ h => h) (by rfl) ?y43 ?r43
                  case y43 => (intro w9q hSwq; clear hSwq; go_simp; with_reducible rfl)
                  try simp only [Act.put, List.setIfInBounds_toArray, List.set_cons_zero, List.set_cons_succ]
                  refine rest_got (i := 3) (v := ?v44) rfl (by kernel_rfl) (by kernel_rfl) (by kernel_rfl) (fun _ _ _ h => h) (by rfl) ?y44 ?r44
                  case y44 => (intro w9q hSwq; clear hSwq; go_simp; with_reducible rfl)
                  try simp only [Act.put, List.setIfInBounds_toArray, List.set_cons_zero, List.set_cons_succ]
                  refine rest_got (i := 4) (v := ?v45) rfl (by kernel_rfl) (by kernel_rfl) (by kernel_rfl) (fun _ _ _ h => h) (by rfl) ?y45 ?r45
                  case y45 => ((intro w9' hm9'; have hc9' := Mod.cell hm9' R2.out (by first | exact List.not_mem_nil | assumption | (simp; done) | (simp; omega)); clear hm9'; go_simp; with_reducible rfl))
                  try simp only [Act.put, List.setIfInBounds_toArray, List.set_cons_zero, List.set_cons_succ]
                  refine rest_got (i := 5) (v := ?v46) rfl (by kernel_rfl) (by kernel_rfl) (by kernel_rfl) (fun _ _ _ h => h) (by rfl) ?y46 ?r46
                  case y46 => (intro w9q hSwq; clear hSwq; go_simp; with_reducible rfl)
                  try simp only [Act.put, List.setIfInBounds_toArray, List.set_cons_zero, List.set_cons_succ]
                  refine rest_got (i := 6) (v := ?v47) rfl (by kernel_rfl) (by kernel_rfl) (by kernel_rfl) (fun _ _ _ h => h) (by rfl) ?y47 ?r47
                  case y47 => ((intro w9' hm9'; have hc9' := Mod.cell hm9' E2.out (by first | exact List.not_mem_nil | assumption | (simp; done) | (simp; omega)); clear hm9'; go_simp; with_reducible rfl))
                  try simp only [Act.put, List.setIfInBounds_toArray, List.set_cons_zero, List.set_cons_succ]
                  refine rest_got (i := 7) (v := ?v48) rfl (by kernel_rfl) (by kernel_rfl) (by kernel_rfl) (fun _ _ _ h => h) (by rfl) ?y48 ?r48
                  case y48 => (intro w9q hSwq; clear hSwq; go_simp; with_reducible rfl)
                  try simp only [Act.put, List.setIfInBounds_toArray, List.set_cons_zero, List.set_cons_succ]
                  refine rest_done (by kernel_rfl) ?_ _
                  clear DC DS
                  go_wp2
                  go_roundw
                  case rel => exact ⟨j + 1, 0, wc, _, wt, by omega, rfl, rfl, by go_num, Y8.out, M8.out, HSN.out⟩
                  case measure => first | (simp [RowKit.intOf]; done) | (simp [RowKit.intOf]; omega)
            · have DC : (c' != c) = true := by simpa using hcl
              have HSN : Hid (ScanI (foldA (K.take (j + 1))) c s what (wc, wt)) := Lib.hid (by rw [HTK.out]; have := HSC.out; unfold ScanI at this ⊢; rw [lookF_other hcl]; exact this)
              go_upto_region 14 with (fail)
              refine rest_start [] 8 #[false, false, false, false, false, false, false, false] rfl (by kernel_rfl) (by kernel_rfl) ?_
              intro w6 m6
              have P1 := Lib.hid (m6.cell K1.out List.not_mem_nil)
              have B1 := Lib.hid (m6.cell A1.out List.not_mem_nil)
              have Y6 := Lib.hid (m6.get Yi.out List.not_mem_nil)
              have M6 := Lib.hid (Mi.out.trans' m6.nil)
              clear m6 K1 K2 K3 K4 A1 A2
              refine rest_got (i := 0) (v := ?v49) rfl (by kernel_rfl) (by kernel_rfl) (by kernel_rfl) (fun _ _ _ h => h) (by rfl) ?y49 ?r49
              case y49 => (intro w9q hSwq; clear hSwq; go_simp; with_reducible rfl)
              try simp only [Act.put, List.setIfInBounds_toArray, List.set_cons_zero, List.set_cons_succ]
              refine rest_got (i := 1) (v := ?v50) rfl (by kernel_rfl) (by kernel_rfl) (by kernel_rfl) (fun _ _ _ h => h) (by rfl) ?y50 ?r50
              case y50 => (intro w9q hSwq; clear hSwq; go_simp; with_reducible rfl)
              try simp only [Act.put, List.setIfInBounds_toArray, List.set_cons_zero, List.set_cons_succ]
              refine rest_got (i := 2) (v := ?v51) rfl (by kernel_rfl) (by kernel_rfl) (by kernel_rfl) (fun _ _ _ h => h) (by rfl) ?y51 ?r51
              case y51 => (intro w9q hSwq; clear hSwq; go_simp; with_reducible rfl)
              try simp only [Act.put, List.setIfInBounds_toArray, List.set_cons_zero, List.set_cons_succ]
              refine rest_got (i := 3) (v := ?v52) rfl (by kernel_rfl) (by kernel_rfl) (by kernel_rfl) (fun _ _ _ h => h) (by rfl) ?y52 ?r52
              case y52 => (intro w9q hSwq; clear hSwq; go_simp; with_reducible rfl)
              try simp only [Act.put, List.setIfInBounds_toArray, List.set_cons_zero, List.set_cons_succ]
              refine rest_got (i := 4) (v := ?v53) rfl (by kernel_rfl) (by kernel_rfl) (by kernel_rfl) (fun _ _ _ h => h) (by rfl) ?y53 ?r53
              case y53 => ((intro w9' hm9'; have hc9' := Mod.cell hm9' P1.out (by first | exact List.not_mem_nil | assumption | (simp; done) | (simp; omega)); clear hm9'; go_simp; with_reducible rfl))
              try simp only [Act.put, List.setIfInBounds_toArray, List.set_cons_zero, List.set_cons_succ]
              refine rest_got (i := 5) (v := ?v54) rfl (by kernel_rfl) (by kernel_rfl) (by kernel_rfl) (fun _ _ _ h => h) (by rfl) ?y54 ?r54
              case y54 => (intro w9q hSwq; clear hSwq; go_simp; with_reducible rfl)
              try simp only [Act.put, List.setIfInBounds_toArray, List.set_cons_zero, List.set_cons_succ]
              refine rest_got (i := 6) (v := ?v55) rfl (by kernel_rfl) (by kernel_rfl) (by kernel_rfl) (fun _ _ _ h => h) (by rfl) ?y55 ?r55
              case y55 => ((intro w9' hm9'; have hc9' := Mod.cell hm9' B1.out (by first | exact List.not_mem_nil | assumption | (simp; done) | (simp; omega)); clear hm9'; go_simp; with_reducible rfl))
              try simp only [Act.put, List.setIfInBounds_toArray, List.set_cons_zero, List.set_cons_succ]
              refine rest_got (i := 7) (v := ?v56) rfl (by kernel_rfl) (by kernel_rfl) (by kernel_rfl) (fun _ _ _ h => h) (by rfl) ?y56 ?r56
              case y56 => (intro w9q hSwq; clear hSwq; go_simp; with_reducible rfl)
              try simp only [Act.put, List.setIfInBounds_toArray, List.set_cons_zero, List.set_cons_succ]
              refine rest_done (by kernel_rfl) ?_ _
              go_wp2
              go_roundw
              case rel => exact ⟨j + 1, what, wc, _, wt, by omega, rfl, rfl, by go_num, Y6.out, M6.out, HSN.out⟩
              case measure => first | (simp [RowKit.intOf]; done) | (simp [RowKit.intOf]; omega)
          · have hjK : j = K.length := by omega
            subst hjK
            have hend := HSC.out
            rw [List.take_length] at hend
            have HEND := Lib.hid hend.end
            clear hend HSC A1 A2
            have y0 := cell_of_block (i := 0) Yi.out
            have y1 := cell_of_block (i := 1) Yi.out
            have f0 := free_of_block (i := 0) Yi.out
            have f1 := free_of_block (i := 1) Yi.out
            have hlw := lt_of_block Yi.out
            go_upto_if 74 with (fail)
            go_cut [] from 24 to 121 (fun wx => ∃ (cd1 : Int) (t1 : ByteArray), wx.heap[gw]? = some (.cells #[.int .u8 cd1, .string t1] 25 (0, 0)) ∧ lookF (foldA K) c s = ((cd1, t1), what) ∧ Mod [gw] w5 wx)
            case first =>
              by_cases h0 : what = 0
              · have D0 : (what == 0) = true := by simp [h0]
                have e1 := HEND.out
                rw [if_pos h0] at e1
                have E1 := Lib.hid e1
                clear e1
                go_wp2
                go_meet
                exact ⟨0, ⟨#[]⟩, twoR_set Yi.out _ _, E1.out, Mi.out.trans' (two_mod _ _ _ _)⟩
              · have D0 : (what == 0) = false := by simpa using h0
                have e1 := HEND.out
                rw [if_neg h0] at e1
                have E1 := Lib.hid e1
                clear e1
                go_wp2
                go_meet
                exact ⟨wc, wt, Yi.out, E1.out, Mi.out⟩
            case rest =>
              rename World => w9
              obtain ⟨cd1, t1, hgw9, hlk, m9⟩ := hcut
              have Y9 := Lib.hid hgw9
              have HL := Lib.hid hlk
              have X9 := Lib.hid (m9.get X5.out (by simpa using HNG.out))
              have HO9 := Lib.hid ((HO.out.mod0 M5.out).mod m9 (fun x hx hx2 => (HKG.out x hx).1 (by simpa using hx2)))
              have HT9 := Lib.hid ((HT.out.mod0 M5.out).modC m9 (fun x hx => by rw [List.mem_singleton] at hx; subst hx; exact ⟨_, _, _, Y5.out, by decide, by decide⟩))
              have HM9 : Hid (Mod [] w w9) := Lib.hid ((HM.out.trans' M5.out).fresh1 m9 (by have := HM.out.size; omega))
              clear hgw9 hlk m9 y0 y1 f0 f1 hlw HEND Xi Yi Mi HOi
              have a1 := cell_of_block (i := 1) X9.out
              have a2 := cell_of_block (i := 2) X9.out
              go_wp2_with fail
              refine (look_w g b n _ c s cd1 what t1 w9 HT9.out HL.out).mono ?_
              rintro e w10 ⟨rfl, m10⟩
              clear a1 a2
              have Y10 := Lib.hid (m10.get Y9.out List.not_mem_nil)
              have y0 := cell_of_block (i := 0) Y10.out
              have y1 := cell_of_block (i := 1) Y10.out
              have hlw := lt_of_block Y10.out
              have mr := m10.trans' (Mod.alloc [] w10 (.cells #[.int .u8 cd1, .string t1] 25))
              have X11 := Lib.hid (mr.get X9.out List.not_mem_nil)
              have HO11 := Lib.hid (HO9.out.mod0 mr)
              have HT11 := Lib.hid (HT9.out.mod0 mr)
              have HM11 := Lib.hid (HM9.out.trans' mr)
              have HCP := Lib.hid (tcopy_any (.pointer (some ⟨g, 0, none⟩)) n (foldA K) _ (.inr ⟨g, b, rfl, HT11.out⟩))
              unfold CopTR at HCP
              clear m10 mr HT9 HO9 X9 Y9 HM9
              go_wp2_with fail
              refine HCP.out.mono ?_
              rintro e w12 ⟨g2, b2, rfl, t12, m12, z12⟩
              have X12 := Lib.hid (m12.get X11.out List.not_mem_nil)
              have HO12 := Lib.hid (HO11.out.mod0 m12)
              have HT12 := Lib.hid (HT11.out.mod0 m12)
              have HM12 := Lib.hid (HM11.out.trans' m12)
              have HC12 := Lib.hid t12
              have HB2 : Hid (b2 ≠ b) := Lib.hid (by
                obtain ⟨_, _, _, h3⟩ := HT11.out
                have := h3.lt
                omega)
              clear t12 m12 z12 y0 y1 hlw HCP X11 HO11 HT11 HM11 Y10
              have a0 := cell_of_block (i := 0) X12.out
              cases kp with
              | false =>
                go_wp2
                go_roundw
                case rel => exact ⟨k + 1, n, K, ka, kc, by omega, by go_num, rfl, by have := HKK.out; omega, by have := HNK.out; omega, HO12.out, HB.out, HGK.out, HT12.out, HM12.out⟩
                case measure => first | (simp [RowKit.intOf]; done) | (simp [RowKit.intOf]; omega)
              | true =>
                have a1 := cell_of_block (i := 1) X12.out
                have a2 := cell_of_block (i := 2) X12.out
                have a3 := cell_of_block (i := 3) X12.out
                have a4 := cell_of_block (i := 4) X12.out
                go_wp2_with fail
                refine (keep_any g b n (foldA K) c s cd t w12 HT12.out).mono ?_
                rintro e w13 ⟨⟨v, rfl⟩, t13, m13⟩
                obtain ⟨gc9, h91, h92, h93⟩ := HT12.out
                have hbb := h93.lt
                have X13 := Lib.hid (m13.get X12.out (by have := HBW.out; simp; omega))
                have HO13 := Lib.hid (HO12.out.off h93 m13)
                have HC13 := Lib.hid (HC12.out.off h93 HB2.out m13)
                have HM13 := Lib.hid (HM12.out.fresh1 m13 Z.out)
                have HT13 := Lib.hid t13
                clear t13 m13 h91 h92 h93 hbb a0 a1 a2 a3 a4 X12 HO12 HC12 HM12 HT12
                by_cases hfr : c ≠ 0 ∧ what = 0
                · obtain ⟨hc0, rfl⟩ := hfr
                  have hl2 : (lookF (foldA K) c s).2 = 0 := by rw [HL.out]
                  have hkf : keepF (foldA K) c s (cd, t) = putF (foldA K) (true, c, s, cd, t) := by
                    rw [keepF_put (kp := true), if_pos ⟨hc0, hl2⟩]
                  have hdif : n ≠ keepN (foldA K) n c s ∨ ∃ z, (foldA K z).isSome = true ∧ putF (foldA K) (true, c, s, cd, t) z ≠ foldA K z := by
                    by_cases hs0 : (foldA K c).isSome = true
                    · exact .inr ⟨c, hs0, put_differs rfl rfl hl2 hs0⟩
                    · left
                      unfold keepN
                      rw [if_pos ⟨hc0, hl2⟩, if_neg hs0]
                      omega
                  have hkn : keepN (foldA K) n c s ≤ n + 1 := by
                    unfold keepN
                    split
                    · split <;> omega
                    · omega
                  obtain ⟨nn, hnn⟩ : ∃ q, keepN (foldA K) n c s = q := ⟨_, rfl⟩
                  rw [hnn] at hdif hkn HT13
                  rw [hkf] at HT13
                  have HDIF := Lib.hid hdif
                  have HNN := Lib.hid hkn
                  have HFS : Hid (foldA (K ++ [(true, c, s, cd, t)]) = putF (foldA K) (true, c, s, cd, t)) := Lib.hid (foldA_snoc _ _)
                  have HGN : Hid (GoodA (true, c, s, cd, t)) := Lib.hid (by
                    have h1 := HZ1.out
                    have h2 := HGD1.out
                    exact ⟨by dsimp only; omega, h1.2.2.1, h1.2.2.2.1, h1.2.2.2.2.1, h1.2.2.2.2.2, h2.2, h2.1⟩)
                  have DC0 : (c != 0) = true := by simpa using hc0
                  have ma := Mod.alloc [] w13 (.cells #[.bool true, .int .u32 c, .int .u32 s, .int .u8 cd, .string t] 32)
                  have HSH := Lib.hid (showsA (x := (true, c, s, cd, t)) (heap_alloc_new w13 (.cells #[.bool true, .int .u32 c, .int .u32 s, .int .u8 cd, .string t] 32)))
                  have HOA := Lib.hid (HO13.out.mod0 ma)
                  have HTA := Lib.hid (HT13.out.mod0 ma)
                  have HCA := Lib.hid (HC13.out.mod0 ma)
                  have HMA := Lib.hid (HM13.out.trans' ma)
                  have HZA : Hid (w.heap.size ≤ (w13.alloc (.cells #[.bool true, .int .u32 c, .int .u32 s, .int .u8 cd, .string t] 32)).heap.size) := Lib.hid HMA.out.size
                  have a0 := cell_of_block (i := 0) X13.out
                  have a1 := cell_of_block (i := 1) X13.out
                  have a2 := cell_of_block (i := 2) X13.out
                  have a3 := cell_of_block (i := 3) X13.out
                  have a4 := cell_of_block (i := 4) X13.out
                  have hlk6 : K.length + 1 ≤ 1000000 := by have := HKK.out; omega
                  clear hl2 hkf hdif hkn hnn ma HO13 HT13 HC13 HM13
                  go_wp2_with (first | (at_builtin; refine wpl_appA (dst := some 116) _ _ ka K.length kc K rfl rfl HOA.out _ (true, c, s, cd, t) 1 rfl HSH.out hlk6 ?_) | fail)
                  intro ka2 kc2 w14 o14 m14 n14
                  have HO14 := Lib.hid o14
                  have HT14 := Lib.hid (HTA.out.modC m14 (fun x hx => by obtain ⟨c1, z1, e1⟩ := HOA.out.block x hx; exact ⟨_, _, _, e1, by decide, by decide⟩))
                  have HC14 := Lib.hid (HCA.out.modC m14 (fun x hx => by obtain ⟨c1, z1, e1⟩ := HOA.out.block x hx; exact ⟨_, _, _, e1, by decide, by decide⟩))
                  have HM14 := Lib.hid (HMA.out.trans m14 (fun x hx hl => by have := HB.out x hx; omega))
                  have HB14 : Hid (∀ x, x ∈ blk ka2 → w.heap.size ≤ x) := Lib.hid fun x hx => by
                    rcases n14.blk x hx with h | h
                    · exact HB.out x h
                    · have := HZA.out; omega
                  have HG14 : Hid (∀ x ∈ K ++ [(true, c, s, cd, t)], GoodA x) := Lib.hid fun x hx => by
                    rw [List.mem_append, List.mem_singleton] at hx
                    rcases hx with hx | rfl
                    · exact HGK.out x hx
                    · exact HGN.out
                  have HSM := Lib.hid (tsame_any (.pointer (some ⟨g2, 0, none⟩)) (.pointer (some ⟨g, 0, none⟩)) n nn (foldA K) _ w14 (.inr ⟨g2, b2, rfl, HC14.out⟩) (.inr ⟨g, b, rfl, HT14.out⟩))
                  unfold EqTR at HSM
                  clear o14 m14 n14 a0 a1 a2 a3 a4 HOA HTA HCA HMA HZA HSH X13
                  go_wp2_with fail
                  refine HSM.out.mono ?_
                  rintro e w15 ⟨v, rfl, m15, -, he2⟩
                  obtain rfl : v = false := he2 HDIF.out
                  have HO15 := Lib.hid (HO14.out.mod0 m15)
                  have HT15 := Lib.hid (HT14.out.mod0 m15)
                  have HM15 := Lib.hid (HM14.out.trans' m15)
                  clear m15 he2 HO14 HT14 HM14 HC14 HSM
                  go_wp2
                  go_roundw
                  case rel => exact ⟨k + 1, nn, K ++ [(true, c, s, cd, t)], ka2, kc2, by omega, by go_num, by rw [List.length_append]; rfl, by rw [List.length_append]; have := HKK.out; simp; omega, by have := HNK.out; have := HNN.out; omega, HO15.out, HB14.out, HG14.out, by rw [HFS.out]; exact HT15.out, HM15.out⟩
                  case measure => first | (simp [RowKit.intOf]; done) | (simp [RowKit.intOf]; omega)
                · have hl2 : ¬ (c ≠ 0 ∧ (lookF (foldA K) c s).2 = 0) := by rw [HL.out]; exact hfr
                  have hkf : keepF (foldA K) c s (cd, t) = foldA K := by
                    rw [keepF_put (kp := true), if_neg hl2]
                  have hkn : keepN (foldA K) n c s = n := by unfold keepN; rw [if_neg hl2]
                  rw [hkf, hkn] at HT13
                  have HSM := Lib.hid (tsame_any (.pointer (some ⟨g2, 0, none⟩)) (.pointer (some ⟨g, 0, none⟩)) n n (foldA K) _ w13 (.inr ⟨g2, b2, rfl, HC13.out⟩) (.inr ⟨g, b, rfl, HT13.out⟩))
                  unfold EqTR at HSM
                  have a1 := cell_of_block (i := 1) X13.out
                  clear hl2 hkf hkn
                  by_cases h0 : what = 0
                  · have hc0 : c = 0 := Classical.byContradiction fun h => hfr ⟨h, h0⟩
                    subst hc0
                    subst h0
                    clear hfr
                    go_wp2_with fail
                    refine HSM.out.mono ?_
                    rintro e w15 ⟨v, rfl, m15, he1, -⟩
                    obtain rfl : v = true := by first | exact he1 rfl | exact he1 trivial
                    have HO15 := Lib.hid (HO13.out.mod0 m15)
                    have HT15 := Lib.hid (HT13.out.mod0 m15)
                    have HM15 := Lib.hid (HM13.out.trans' m15)
                    clear m15 he1 HO13 HT13 HM13 HC13 HSM a1 X13
                    go_wp2
                    go_roundw
                    case rel => exact ⟨k + 1, n, K, ka, kc, by omega, by go_num, rfl, by have := HKK.out; omega, by have := HNK.out; omega, HO15.out, HB.out, HGK.out, HT15.out, HM15.out⟩
                    case measure => first | (simp [RowKit.intOf]; done) | (simp [RowKit.intOf]; omega)
                  · have D0 : (what == 0) = false := by simpa using h0
                    clear hfr
                    go_wp2_with fail
                    refine HSM.out.mono ?_
                    rintro e w15 ⟨v, rfl, m15, he1, -⟩
                    obtain rfl : v = true := by first | exact he1 rfl | exact he1 trivial
                    have HO15 := Lib.hid (HO13.out.mod0 m15)
                    have HT15 := Lib.hid (HT13.out.mod0 m15)
                    have HM15 := Lib.hid (HM13.out.trans' m15)
                    clear m15 he1 HO13 HT13 HM13 HC13 HSM a1 X13
                    go_wp2
                    go_roundw
                    case rel => exact ⟨k + 1, n, K, ka, kc, by omega, by go_num, rfl, by have := HKK.out; omega, by have := HNK.out; omega, HO15.out, HB.out, HGK.out, HT15.out, HM15.out⟩
                    case measure => first | (simp [RowKit.intOf]; done) | (simp [RowKit.intOf]; omega)
      · obtain ⟨E, hTE, hGE⟩ := rows_of K HGK.out
        have hnE : n = E.length := by
          obtain ⟨_, _, _, h3⟩ := HT.out
          rw [← h3.count hTE.nodup hTE.mem, List.length_map]
        have hE200 : E.length ≤ 200 := by have := HNK.out; omega
        have HTE := Lib.hid hTE
        have HGE := Lib.hid hGE
        have HNE := Lib.hid hnE
        have HPU := Lib.hid (tput_any g b n (foldA K) E wr HT.out hTE (by omega))
        unfold PutTR at HPU
        clear hTE hGE hnE
        go_wp2_with fail
        refine HPU.out.mono ?_
        rintro e w3 ⟨pa, pn, pc, rfl, hpl, hpo, hpb, m3⟩
        subst hpl
        have hlb : (tabB E).length ≤ 1000000000 := by
          unfold tabB
          rw [List.length_append]
          have e1 := (enc7_length E.length).2
          have e2 := flat_len (E := E) HTE.out.2.1
          have : E.length * 1000044 ≤ 200 * 1000044 := Nat.mul_le_mul_right _ hE200
          omega
        have hsee : Sees w3 pa (tabB E) := Own.sees hpo
        have HNR := Lib.hid (newReader_any pa _ pc (tabB E) 100 w3 rfl (Own.le hpo) (Own.capLe hpo) hsee)
        have HBO : Hid (∀ k, k ∈ blkOf pa (tabB E) → k < w3.heap.size) := Lib.hid hsee.ltOf
        have HT3 := Lib.hid (HT.out.mod0 m3)
        have HM3 := Lib.hid (HM.out.trans' m3)
        have HLB := Lib.hid hlb
        clear hpo hpb m3 hsee hlb HPU HO HB HT HM
        go_wp2_with fail
        refine HNR.out.mono ?_
        rintro e w4 ⟨gr, rfl, hrd, m4, hgr⟩
        have HTK := Lib.hid (ttake_any gr (blkOf pa (tabB E)) (tabB E) w4 hrd (fun k hk => Nat.lt_of_lt_of_le (HBO.out k hk) m4.size) HLB.out)
        unfold TakeTR at HTK
        have HT4 := Lib.hid (HT3.out.mod0 m4)
        have HM4 := Lib.hid (HM3.out.trans' m4)
        have HRD := Lib.hid hrd
        have HGR := Lib.hid (Nat.le_trans HM3.out.size hgr)
        clear hrd m4 hgr HT3 HM3 HNR
        go_wp2_with fail
        refine HTK.out.mono ?_
        rintro e w5 ⟨m5, ⟨x, rfl, hx, hbad⟩ | ⟨gt, bt, nt, ft, Ft, rest, rfl, hT, hF, hG, hlF, hR, hb⟩⟩
        · exact absurd rfl (hbad.out E HGE.out)
        · have hFl : Ft.length ≤ 1000000000 := by
            have e1 := flat_ge Ft
            have e2 := congrArg List.length hlF
            rw [List.length_append] at e2
            have e3 : (Ft.flatMap clB).length ≤ (tabB Ft).length := by unfold tabB; rw [List.length_append]; omega
            have := HLB.out
            omega
          obtain rfl : Ft = E := tabB_one HGE.out hG hlF (by omega) (by omega)
          obtain rfl : ft = foldA K := tabE_one hF HTE.out
          obtain rfl : nt = n := by
            obtain ⟨_, _, _, h3⟩ := hT
            rw [← h3.count hF.nodup hF.mem, List.length_map, HNE.out]
          have HX5 := Lib.hid hT
          have HT5 := Lib.hid (HT4.out.modR8 HRD.out m5)
          have HM5 := Lib.hid (HM4.out.fresh1 m5 HGR.out)
          clear hT hF hG hlF hR hb m5 HT4 HM4 HTK HRD hFl
          go_wp2_with fail
          refine (keep_nil 1 1 0 ⟨#[]⟩ _).mono ?_
          rintro e w6 ⟨⟨v, rfl⟩, m6⟩
          have HX6 := Lib.hid (HX5.out.mod0 m6)
          have HT6 := Lib.hid (HT5.out.mod0 m6)
          have HM6 := Lib.hid (HM5.out.trans' m6)
          clear m6 HX5 HT5 HM5
          go_wp2_with fail
          refine (look_nil 1 1 _).mono ?_
          rintro e w7 ⟨rfl, m7⟩
          have mr := m7.trans' (Mod.alloc [] w7 (.cells #[.int .u8 0, .string ⟨#[]⟩] 25))
          have HX7 := Lib.hid (HX6.out.mod0 mr)
          have HT7 := Lib.hid (HT6.out.mod0 mr)
          have HM7 := Lib.hid (HM6.out.trans' mr)
          have HSM := Lib.hid (tsame_any (.pointer (some ⟨gt, 0, none⟩)) (.pointer (some ⟨g, 0, none⟩)) nt nt (foldA K) (foldA K) _ (.inr ⟨gt, bt, rfl, HX7.out⟩) (.inr ⟨g, b, rfl, HT7.out⟩))
          unfold EqTR at HSM
          clear m7 mr HX6 HT6 HM6
          go_wp2_with fail
          refine HSM.out.mono ?_
          rintro e w8 ⟨v, rfl, m8, he1, -⟩
          obtain rfl : v = true := by first | exact he1 rfl | exact he1 trivial
          have HM8 := Lib.hid (HM7.out.trans' m8)
          clear m8 he1 HSM HX7 HT7 HM7
          go_wp2_with fail
          refine (tlen_nil _).mono ?_
          rintro e w9 ⟨rfl, rfl⟩
          have HCN := Lib.hid (tcopy_any (.pointer none) 0 (fun _ => none) w9 (.inl ⟨rfl, rfl, rfl⟩))
          unfold CopTR at HCN
          go_wp2_with fail
          refine HCN.out.mono ?_
          rintro e w10 ⟨g3, b3, rfl, t10, m10, -⟩
          have HM10 := Lib.hid (HM8.out.trans' m10)
          have HT10 := Lib.hid t10
          clear t10 m10 HM8 HCN
          go_wp2_with fail
          refine (tlen_any g3 b3 0 _ _ HT10.out).mono ?_
          rintro e w11 ⟨rfl, rfl⟩
          have HPN := Lib.hid (put_nil w11)
          unfold PutTR at HPN
          go_wp2_with fail
          refine HPN.out.mono ?_
          rintro e w12 ⟨qa, qn, qc, rfl, hql, hqo, hqb, m12⟩
          have HQS : Hid (Sees w12 qa [0]) := Lib.hid (Own.sees hqo)
          have HM12 := Lib.hid (HM10.out.trans' m12)
          clear hqo hqb m12 HPN HT10 HM10
          go_wp2_with (first | (refine wpl_str (dst := some 162) _ qa qn qc [0] rfl hql HQS.out (by rfl) ?_) | fail)
          refine (new_any _).mono ?_
          rintro e w13 ⟨g4, b4, rfl, t13, m13, -⟩
          have HT13 := Lib.hid t13
          have HM13 := Lib.hid (HM12.out.trans' m13)
          have HSN := Lib.hid (tsame_any (.pointer none) (.pointer (some ⟨g4, 0, none⟩)) 0 0 (fun _ => none) (fun _ => none) _ (.inl ⟨rfl, rfl, rfl⟩) (.inr ⟨g4, b4, rfl, HT13.out⟩))
          unfold EqTR at HSN
          clear t13 m13 HM12 HQS hql
          go_wp2_with fail
          refine HSN.out.mono ?_
          rintro e w14 ⟨v, rfl, m14, he1, -⟩
          obtain rfl : v = true := by first | exact he1 rfl | exact he1 trivial
          have HM14 := Lib.hid (HM13.out.trans' m14)
          clear m14 he1 HSN HT13 HM13
          go_wp2_with fail
          refine (wakes10_any _).mono ?_
          rintro e w15 ⟨rfl, m15⟩
          have HM15 := Lib.hid (HM14.out.trans' m15)
          clear m15
          go_wp2
          go_ret
          exact ⟨rfl, HM15.out⟩
end Go.Proofs.Ytgneigdcgfiooaa
