/- The batcher laws' reference: Ready, Put, Take. -/
import Derived.Test.YtigamomoegpefaaDoorHRef19
namespace Go.Proofs.YtigamomoegpefaaDoor
open Go Go.RowKit Go.Lib

set_option maxRecDepth 100000 in
set_option maxHeartbeats 4000000 in
theorem ready19_any (w0 : World) (g : Nat) (ba ag now : Int) (la : Option Addr) (lc : Nat) (l : List Wt) (w : World) (h : RefW w0 w g ba ag now la lc l) (hl : l.length ≤ 100000) :
    Calls Tryd.prog 19 #[.pointer (some ⟨g, 0, none⟩)] w fun e w' => e = .returned (.bool (readyB ba now (rL l))) ∧ Mod [] w w' := by
  have HE := Lib.hid (eldest19_any w0 g ba ag now la lc l w h hl)
  have H := Lib.hid h
  obtain ⟨t, ht⟩ : ∃ t, readyB ba now (rL l) = t := ⟨_, rfl⟩
  have HT := Lib.hid ht
  rw [ht]
  obtain ⟨n, hn⟩ : ∃ n, l.length = n := ⟨_, rfl⟩
  have HN := Lib.hid hn
  clear h ht
  by_cases h0 : n = 0
  · have he : eldF (rL l) l.length = none := by rw [hn, h0]; rfl
    rw [he] at HE
    have hr : t = false := by rw [← HT.out]; unfold readyB; exact decide_eq_false (fun h => by obtain ⟨h1, -⟩ := h; rw [rL_length] at h1; omega)
    subst hr
    clear he hn hl
    dsimp only at HE
    go_enter Tryd.func19, Tryd.ntmps19
    go_wp2_with fail
    refine HE.out.mono ?_
    rintro e w1 ⟨rfl, m1⟩
    have M1 := Lib.hid m1
    clear m1 HE
    go_wp2_with fail
    go_quiet (fail)
    go_wp2_with fail
    go_ret
    exact ⟨rfl, M1.out.trans0 (Mod.drewN _ _ _)⟩
  obtain ⟨he, hk, _, _⟩ := eldI_some (rL l) (by rw [rL_length]; omega)
  rw [rL_length] at he hk
  rw [he] at HE
  dsimp only at HE
  have HR : Hid (t = decide (0 < n ∧ (ba ≤ (n : Int) ∨ dueOf (rL l) (eldI (rL l)) ≤ now))) := Lib.hid (by rw [← HT.out, ← hn, ← rL_length]; rfl)
  have hdue := rL_due l _ hk
  obtain ⟨k, hkk⟩ : ∃ k, eldI (rL l) = k := ⟨_, rfl⟩
  rw [hkk] at HE HR
  have HK : Hid (∃ b, la = some ⟨b, 0, none⟩ ∧ ∀ w', OwnW w' la lc l → w'.cell? ⟨b, k * 8 + 7, none⟩ = some (.int .i64 (dueOf (rL l) k))) := Lib.hid (by
    subst hkk
    obtain ⟨b, hb, _⟩ := H.out.own.at' hk
    refine ⟨b, hb, fun w' o => ?_⟩
    obtain ⟨b', hb', q⟩ := o.at' hk
    rw [hb] at hb'
    cases hb'
    rw [hdue]
    exact q.2)
  obtain ⟨b, rfl, hc⟩ := HK.out
  have HC := Lib.hid hc
  obtain ⟨du, hdu⟩ : ∃ x, dueOf (rL l) k = x := ⟨_, rfl⟩
  rw [hdu] at HC HR
  have hkn : (k : Int) < (n : Int) := by have : k < l.length := by rw [← hkk]; exact hk
                                         omega
  have D0 : decide ((0 : Int) ≤ (k : Int)) = true := by simp
  clear he hk hdue hkk hdu hc HK hn hl
  go_enter Tryd.func19, Tryd.ntmps19
  go_wp2_with fail
  refine HE.out.mono ?_
  rintro e w1 ⟨rfl, m1⟩
  have M1 := Lib.hid m1
  have H1 := Lib.hid (H.out.mod0 m1)
  have c0 := cell_of_block (i := 0) H1.out.blk
  have c2 := cell_of_block (i := 2) H1.out.blk
  have c3 := cell_of_block (i := 3) H1.out.blk
  rw [HN.out] at c3
  have c7 := HC.out w1 H1.out.own
  clear m1 HE
  by_cases hb : ba ≤ (n : Int)
  · have D2 : decide (ba ≤ (n : Int)) = true := decide_eq_true hb
    have ht : t = true := by rw [HR.out]; exact decide_eq_true ⟨by omega, .inl hb⟩
    subst ht
    go_wp2_with fail
    go_quiet (fail)
    go_wp2_with fail
    go_ret
    exact ⟨rfl, M1.out.trans0 (Mod.drewN _ _ _)⟩
  · have D2 : decide (ba ≤ (n : Int)) = false := decide_eq_false hb
    have ht : decide (du ≤ now) = t := by
      rw [HR.out]
      by_cases hd : du ≤ now
      · rw [decide_eq_true hd, decide_eq_true ⟨by omega, .inr hd⟩]
      · rw [decide_eq_false hd, decide_eq_false (fun h => h.2.elim hb hd)]
    go_wp2_with fail
    go_quiet (fail)
    go_wp2_with fail
    go_ret
    exact ⟨rfl, M1.out.trans0 (Mod.drewN _ _ _)⟩

/-- What the reference's Put leaves. -/
def Put19W (w0 w : World) (g : Nat) (ba ag now : Int) (la : Option Addr) (_ : Nat) (l : List Wt) (c : Cm) (wt : Int) (e : Ending) (w' : World) : Prop :=
  e = .returned (.int .i64 (putE ag (rL l) c.1 wt)) ∧ ∃ la' lc' l', RefW w0 w' g ba ag now la' lc' l' ∧ rL l' = putL ag now (rL l) c.1 wt ∧ Mod (g :: blk la) w w' ∧ SameOrNew w w' la la'
theorem Put19W.bad {w0 w w' : World} {g : Nat} {ba ag now : Int} {la : Option Addr} {lc : Nat} {l : List Wt} {c : Cm} {wt v : Int} (h : RefW w0 w g ba ag now la lc l) (hm : Mod [] w w') (hv : putE ag (rL l) c.1 wt = v) (h0 : v ≠ 0) :
    Put19W w0 w g ba ag now la lc l c wt (.returned (.int .i64 v)) w' := by
  subst hv
  exact ⟨rfl, la, lc, l, h.mod0 hm, (putL_no h0).symm, hm.nil, .inl rfl⟩
set_option maxRecDepth 100000 in
set_option maxHeartbeats 4000000 in
theorem put19ref_any (w0 : World) (g : Nat) (ba ag now : Int) (la : Option Addr) (lc : Nat) (l : List Wt) (c : Cm) (wt : Int) (w : World) (h : RefW w0 w g ba ag now la lc l) (hl : l.length ≤ 64) (hag : 0 ≤ ag ∧ ag ≤ 8) (hnow : 0 ≤ now ∧ now ≤ 1000000)
    (hw : Wf c.1) (hk0 : SeesT w0 c.2.1 c.1.keys) (m0 : Mod [] w0 w) :
    Calls Tryd.prog 30 #[.pointer (some ⟨g, 0, none⟩), cmdV c, .int .i64 wt] w (Put19W w0 w g ba ag now la lc l c wt) := by
  obtain ⟨⟨client, seq, kind, keys, old, fresh, nn⟩, kao, kcap⟩ := c
  obtain ⟨w1, hw1, A1, m1⟩ : ∃ w1, w.alloc (.cells #[.int .u32 (client : Int), .int .u32 (seq : Int), .int .u8 (kind : Int), .slice kao keys.length kcap, .string old, .string fresh, .int .i64 nn] 36) = w1 ∧ CmdAt w1 w.heap.size (⟨client, seq, kind, keys, old, fresh, nn⟩, kao, kcap) ∧ Mod [] w w1 :=
    ⟨_, rfl, box_at (⟨client, seq, kind, keys, old, fresh, nn⟩, kao, kcap) w, Mod.alloc _ _ _⟩
  have HBAD : Hid (∀ w' v, Mod [] w w' → putE ag (rL l) ⟨client, seq, kind, keys, old, fresh, nn⟩ wt = v → v ≠ 0 → Put19W w0 w g ba ag now la lc l (⟨client, seq, kind, keys, old, fresh, nn⟩, kao, kcap) wt (.returned (.int .i64 v)) w') := Lib.hid (fun w' v hm hv h0 => Put19W.bad h hm hv h0)
  have HC := Lib.hid (may_any (⟨client, seq, kind, keys, old, fresh, nn⟩, kao, kcap) w1 hw (hk0.mod0 (m0.trans' m1)))
  have HA := Lib.hid A1
  have M1 := Lib.hid m1
  have H := Lib.hid h
  have HK := Lib.hid hk0
  have HW := Lib.hid hw
  show Calls Tryd.prog 30 #[.pointer (some ⟨g, 0, none⟩), .agg #[.int .u32 (client : Int), .int .u32 (seq : Int), .int .u8 (kind : Int), .slice kao keys.length kcap, .string old, .string fresh, .int .i64 nn], .int .i64 wt] w (Put19W w0 w g ba ag now la lc l (⟨client, seq, kind, keys, old, fresh, nn⟩, kao, kcap) wt)
  obtain ⟨p0, p1, p2, p3, p4, p5, p6⟩ := A1
  dsimp only at p0 p1 p2 p3 p4 p5 p6
  clear h hk0 hw m1 m0
  by_cases hmay : May ⟨client, seq, kind, keys, old, fresh, nn⟩
  case neg =>
    rw [decide_eq_false hmay] at HC
    have HV1 : Hid (putE ag (rL l) ⟨client, seq, kind, keys, old, fresh, nn⟩ wt = 1) := Lib.hid (if_neg (fun h => hmay h.1))
    clear hmay
    go_enter Tryd.func30, Tryd.ntmps30
    go_wp2_with fail
    refine HC.out.mono ?_
    rintro e w2 ⟨rfl, m2⟩
    have M2 := Lib.hid (M1.out.trans' m2)
    clear m2
    go_wp2_with fail
    go_ret
    exact HBAD.out _ _ M2.out HV1.out (by decide)
  rw [decide_eq_true hmay] at HC
  have HY := Lib.hid hmay
  clear hmay
  by_cases hw0 : wt < 0
  · have HV1 : Hid (putE ag (rL l) ⟨client, seq, kind, keys, old, fresh, nn⟩ wt = 1) := Lib.hid (if_neg (fun h => by omega))
    have D : decide (wt < 0) = true := decide_eq_true hw0
    go_enter Tryd.func30, Tryd.ntmps30
    go_wp2_with fail
    refine HC.out.mono ?_
    rintro e w2 ⟨rfl, m2⟩
    have M2 := Lib.hid (M1.out.trans' m2)
    clear m2
    go_wp2_with fail
    go_ret
    exact HBAD.out _ _ M2.out HV1.out (by decide)
  have D0 : decide (wt < 0) = false := decide_eq_false hw0
  by_cases hw8 : ag < wt
  · have HV1 : Hid (putE ag (rL l) ⟨client, seq, kind, keys, old, fresh, nn⟩ wt = 1) := Lib.hid (if_neg (fun h => by omega))
    have D : decide (ag < wt) = true := decide_eq_true hw8
    go_enter Tryd.func30, Tryd.ntmps30
    go_wp2_with fail
    refine HC.out.mono ?_
    rintro e w2 ⟨rfl, m2⟩
    have M2 := Lib.hid (M1.out.trans' m2)
    have c1 := cell_of_block (i := 1) (H.out.mod0 M2.out).blk
    clear m2
    go_wp2_with fail
    go_ret
    exact HBAD.out _ _ M2.out HV1.out (by decide)
  have D1 : decide (ag < wt) = false := decide_eq_false hw8
  obtain ⟨n, hn⟩ : ∃ n, l.length = n := ⟨_, rfl⟩
  have HN := Lib.hid hn
  rw [hn] at hl
  clear hn
  go_enter Tryd.func30, Tryd.ntmps30
  go_wp2_with fail
  refine HC.out.mono ?_
  rintro e w2 ⟨rfl, m2⟩
  have M2 := Lib.hid (M1.out.trans' m2)
  have A2 := Lib.hid (HA.out.mod0 m2)
  have H2 := Lib.hid (H.out.mod0 M2.out)
  have c1 := cell_of_block (i := 1) H2.out.blk
  have c3 := cell_of_block (i := 3) H2.out.blk
  rw [HN.out] at c3
  clear m2 p0 p1 p2 p3 p4 p5 p6 HC HA M1 hw1
  by_cases hfull : n = 64
  · subst hfull
    have HV1 : Hid (putE ag (rL l) ⟨client, seq, kind, keys, old, fresh, nn⟩ wt = 30) := Lib.hid (by
      unfold putE; rw [if_pos ⟨HY.out, by omega, by omega⟩, if_pos (by rw [rL_length, HN.out])])
    go_wp2_with fail
    go_ret
    exact HBAD.out _ _ M2.out HV1.out (by decide)
  have D4 : ((n : Int) == 64) = false := by simp; omega
  have HV0 : Hid (putE ag (rL l) ⟨client, seq, kind, keys, old, fresh, nn⟩ wt = 0) := Lib.hid (by
      unfold putE; rw [if_pos ⟨HY.out, by omega, by omega⟩, if_neg (by rw [rL_length, HN.out]; exact hfull)])
  go_upto_region 5 with (fail)
  refine restu_start 22 (blk la) (g :: blk la) 23 #[false, false, false, false, false, false, false, false, false, false, false, false, false, false, false, false, false, false, false, false, false, false, false] rfl (by kernel_rfl) (by kernel_rfl) ?_
  intro w3 m3
  have H3 := Lib.hid (H2.out.mod0 m3)
  have A3 := Lib.hid (A2.out.mod0 m3)
  have M3 := Lib.hid (M2.out.trans' m3)
  have c1 := cell_of_block (i := 1) H3.out.blk
  have c2 := cell_of_block (i := 2) H3.out.blk
  have c3 := cell_of_block (i := 3) H3.out.blk
  rw [HN.out] at c3
  have hgl : g ∉ blk la := H3.out.off
  have hwl : w.heap.size ∉ blk la := fun h => by have := Own.lt H.out.own _ h; omega
  have LA : Hid (∀ w', Mod (blk la) w3 w' → CmdAt w' w.heap.size (⟨client, seq, kind, keys, old, fresh, nn⟩, kao, kcap)) := Lib.hid (fun w' m => A3.out.mod m hwl)
  have e1 : IntKind.i64.wrap (now + ag) = now + ag := IntWalk.i64_in _ (by omega)
  have e2 : IntKind.i64.wrap (now + ag - wt) = now + ag - wt := IntWalk.i64_in _ (by omega)
  clear m3 H2 A2 hwl HBAD
  refine restu_got (i := 0) (v := ?v1) rfl (by kernel_rfl) (by kernel_rfl) (by kernel_rfl) (by rfl) (fun _ _ _ h => h) (by rfl) ?y1 ?r1
  case y1 => (intro w9q hSwq; clear hSwq; go_simp; with_reducible rfl)
  try simp only [Act.put, List.setIfInBounds_toArray, List.set_cons_zero, List.set_cons_succ]
  refine restu_got (i := 1) (v := ?v2) rfl (by kernel_rfl) (by kernel_rfl) (by kernel_rfl) (by rfl) (fun _ _ _ h => h) (by rfl) ?y2 ?r2
  case y2 => (intro w9q hSwq; clear hSwq; go_simp; with_reducible rfl)
  try simp only [Act.put, List.setIfInBounds_toArray, List.set_cons_zero, List.set_cons_succ]
  refine restu_got (i := 2) (v := ?v3) rfl (by kernel_rfl) (by kernel_rfl) (by kernel_rfl) (by rfl) (fun _ _ _ h => h) (by rfl) ?y3 ?r3
  case y3 => (intro w9q hSwq; clear hSwq; go_simp; with_reducible rfl)
  try simp only [Act.put, List.setIfInBounds_toArray, List.set_cons_zero, List.set_cons_succ]
  refine restu_got (i := 3) (v := ?v4) rfl (by kernel_rfl) (by kernel_rfl) (by kernel_rfl) (by rfl) (fun _ _ _ h => h) (by rfl) ?y4 ?r4
  case y4 => (intro w9q hSwq; clear hSwq; go_simp; with_reducible rfl)
  try simp only [Act.put, List.setIfInBounds_toArray, List.set_cons_zero, List.set_cons_succ]
  refine restu_early (i := 4) [19, 20, 21, 22] (v := ?v5) rfl (by kernel_rfl) (by kernel_rfl) (by kernel_rfl) (by rfl) (by kernel_rfl) (by rfl) (by kernel_rfl) (fun _ _ _ h => h) (by rfl) ?y5 ?r5
  case y5 => ((intro w9' hm9'; have hc9' := Mod.cell hm9' c3 (by first | exact List.not_mem_nil | assumption | (simp; done) | (simp; omega)); clear hm9'; go_simp; with_reducible rfl))
  try simp only [Act.put, List.setIfInBounds_toArray, List.set_cons_zero, List.set_cons_succ]
  refine restu_early (i := 5) [17, 18, 19, 20, 21, 22] (v := ?v6) rfl (by kernel_rfl) (by kernel_rfl) (by kernel_rfl) (by rfl) (by kernel_rfl) (by rfl) (by kernel_rfl) (fun _ _ _ h => h) (by rfl) ?y6 ?r6
  case y6 => ((intro w9' hm9'; obtain ⟨hc0', hc1', hc2', hc3', hc4', hc5', hc6'⟩ := LA.out w9' hm9'; clear hm9'; go_simp; with_reducible rfl))
  try simp only [Act.put, List.setIfInBounds_toArray, List.set_cons_zero, List.set_cons_succ]
  refine restu_got (i := 6) (v := ?v7) rfl (by kernel_rfl) (by kernel_rfl) (by kernel_rfl) (by rfl) (fun _ _ _ h => h) (by rfl) ?y7 ?r7
  case y7 => (intro w9q hSwq; clear hSwq; go_simp; with_reducible rfl)
  try simp only [Act.put, List.setIfInBounds_toArray, List.set_cons_zero, List.set_cons_succ]
  refine restu_got (i := 7) (v := ?v8) rfl (by kernel_rfl) (by kernel_rfl) (by kernel_rfl) (by rfl) (fun _ _ _ h => h) (by rfl) ?y8 ?r8
  case y8 => (intro w9q hSwq; clear hSwq; go_simp; with_reducible rfl)
  try simp only [Act.put, List.setIfInBounds_toArray, List.set_cons_zero, List.set_cons_succ]
  refine restu_got (i := 8) (v := ?v9) rfl (by kernel_rfl) (by kernel_rfl) (by kernel_rfl) (by rfl) (fun _ _ _ h => h) (by rfl) ?y9 ?r9
  case y9 => (intro w9q hSwq; clear hSwq; go_simp; with_reducible rfl)
  try simp only [Act.put, List.setIfInBounds_toArray, List.set_cons_zero, List.set_cons_succ]
  refine restu_early (i := 9) [14, 16, 17, 18, 19, 20, 21, 22] (v := ?v10) rfl (by kernel_rfl) (by kernel_rfl) (by kernel_rfl) (by rfl) (by kernel_rfl) (by rfl) (by kernel_rfl) (fun _ _ _ h => h) (by rfl) ?y10 ?r10
  case y10 => ((intro w9' hm9'; have hc9' := Mod.cell hm9' c2 (by first | exact List.not_mem_nil | assumption | (simp; done) | (simp; omega)); clear hm9'; go_simp; with_reducible rfl))
  try simp only [Act.put, List.setIfInBounds_toArray, List.set_cons_zero, List.set_cons_succ]
  refine restu_got (i := 10) (v := ?v11) rfl (by kernel_rfl) (by kernel_rfl) (by kernel_rfl) (by rfl) (fun _ _ _ h => h) (by rfl) ?y11 ?r11
  case y11 => (intro w9q hSwq; clear hSwq; go_simp; with_reducible rfl)
  try simp only [Act.put, List.setIfInBounds_toArray, List.set_cons_zero, List.set_cons_succ]
  refine restu_got (i := 11) (v := ?v12) rfl (by kernel_rfl) (by kernel_rfl) (by kernel_rfl) (by rfl) (fun _ _ _ h => h) (by rfl) ?y12 ?r12
  case y12 => (intro w9q hSwq; clear hSwq; go_simp; with_reducible rfl)
  try simp only [Act.put, List.setIfInBounds_toArray, List.set_cons_zero, List.set_cons_succ]
  refine restu_got (i := 12) (v := ?v13) rfl (by kernel_rfl) (by kernel_rfl) (by kernel_rfl) (by rfl) (fun _ _ _ h => h) (by rfl) ?y13 ?r13
  case y13 => (intro w9q hSwq; clear hSwq; go_simp; with_reducible rfl)
  try simp only [Act.put, List.setIfInBounds_toArray, List.set_cons_zero, List.set_cons_succ]
  refine restu_early (i := 13) [14, 16, 17, 18, 19, 20, 21, 22] (v := ?v14) rfl (by kernel_rfl) (by kernel_rfl) (by kernel_rfl) (by rfl) (by kernel_rfl) (by rfl) (by kernel_rfl) (fun _ _ _ h => h) (by rfl) ?y14 ?r14
  case y14 => ((intro w9' hm9'; have hc9' := Mod.cell hm9' c1 (by first | exact List.not_mem_nil | assumption | (simp; done) | (simp; omega)); clear hm9'; go_simp; with_reducible rfl))
  try simp only [Act.put, List.setIfInBounds_toArray, List.set_cons_zero, List.set_cons_succ]
  refine restu_got (i := 14) (v := ?v15) rfl (by kernel_rfl) (by kernel_rfl) (by kernel_rfl) (by rfl) (fun _ _ _ h => h) (by rfl) ?y15 ?r15
  case y15 => (intro w9q hSwq; clear hSwq; go_simp; with_reducible rfl)
  try simp only [Act.put, List.setIfInBounds_toArray, List.set_cons_zero, List.set_cons_succ]
  refine restu_got (i := 15) (v := ?v16) rfl (by kernel_rfl) (by kernel_rfl) (by kernel_rfl) (by rfl) (fun _ _ _ h => h) (by rfl) ?y16 ?r16
  case y16 => (intro w9q hSwq; clear hSwq; go_simp; with_reducible rfl)
  try simp only [Act.put, List.setIfInBounds_toArray, List.set_cons_zero, List.set_cons_succ]
  refine restu_got (i := 16) (v := ?v17) rfl (by kernel_rfl) (by kernel_rfl) (by kernel_rfl) (by rfl) (fun _ _ _ h => h) (by rfl) ?y17 ?r17
  case y17 => (intro w9q hSwq; clear hSwq; go_simp; with_reducible rfl)
  try simp only [Act.put, List.setIfInBounds_toArray, List.set_cons_zero, List.set_cons_succ]
  refine restu_got (i := 17) (v := ?v18) rfl (by kernel_rfl) (by kernel_rfl) (by kernel_rfl) (by rfl) (fun _ _ _ h => h) (by rfl) ?y18 ?r18
  case y18 => (intro w9q hSwq; clear hSwq; go_simp; with_reducible rfl)
  try simp only [Act.put, List.setIfInBounds_toArray, List.set_cons_zero, List.set_cons_succ]
  refine restu_one (i := 18) (by kernel_rfl) rfl (by rfl) ?_
  go_wp2_with fail
  have hb := heap_alloc_new w3 (.cells #[.int .u32 (client : Int), .int .u32 (seq : Int), .int .u8 (kind : Int), .slice kao keys.length kcap, .string old, .string fresh, .int .i64 nn, .int .i64 (now + ag - wt)] 77)
  have m4 := Mod.alloc [] w3 (.cells #[.int .u32 (client : Int), .int .u32 (seq : Int), .int .u8 (kind : Int), .slice kao keys.length kcap, .string old, .string fresh, .int .i64 nn, .int .i64 (now + ag - wt)] 77)
  have SH := Lib.hid (showsW (x := ((⟨client, seq, kind, keys, old, fresh, nn⟩, kao, kcap), now + ag - wt)) hb)
  have hlt3 : g < w3.heap.size := lt_of_block H3.out.blk
  have hla3 := Own.lt H3.out.own
  refine backu_to (K' := blk la) (K2' := g :: blk la) m4.nil (fun _ h => List.mem_cons_of_mem _ h) (fun _ h _ => h) (fun _ h _ => h) ?_
  have H4 := Lib.hid (H3.out.mod0 m4)
  have M4 := Lib.hid (M3.out.trans' m4)
  obtain ⟨w4, hw4⟩ : ∃ x, w3.alloc (.cells #[.int .u32 (client : Int), .int .u32 (seq : Int), .int .u8 (kind : Int), .slice kao keys.length kcap, .string old, .string fresh, .int .i64 nn, .int .i64 (now + ag - wt)] 77) = x := ⟨_, rfl⟩
  rw [hw4] at SH H4 M4 ⊢
  have S4 : Hid (w3.heap.size ≤ w4.heap.size) := Lib.hid (by rw [← hw4]; exact m4.size)
  have HLA := Lib.hid hla3
  clear hb m4 hw4 hla3 H3 A3 M3 c1 c2 c3 e1 e2 LA
  refine restu_one (i := 19) (by kernel_rfl) rfl (by rfl) ?_
  go_wp2_with (first
    | (at_builtin; refine wpl_appW (dst := some 47) _ _ la n lc l rfl HN.out H4.out.own _ 1 1 [((⟨client, seq, kind, keys, old, fresh, nn⟩, kao, kcap), now + ag - wt)] rfl rfl SH.out (by omega) ?_; intro la5 lc5 w5 o5 m5 n5; have O5 := Lib.hid o5; have M5 := Lib.hid m5; have N5 := Lib.hid n5; clear o5 m5 n5)
    | fail)
  refine backu_to (K' := []) (K2' := [g]) M5.out (fun _ h => List.mem_cons_of_mem _ h) (by simp) (by simp) ?_
  have hb5 : w5.heap[g]? = some (.cells #[.int .i64 ba, .int .i64 ag, .int .i64 now, .slice la l.length lc] 49 (0, 0)) := M5.out.get H4.out.blk hgl
  have c3 := cell_of_block (i := 3) hb5
  have f3 := free_of_block (i := 3) hb5
  have HB5 := Lib.hid hb5
  clear hb5
  refine restu_got (i := 20) (v := ?v19) rfl (by kernel_rfl) (by kernel_rfl) (by kernel_rfl) (by rfl) (fun _ _ _ h => h) (by rfl) ?y19 ?r19
  case y19 => (intro w9q hSwq; clear hSwq; go_simp; with_reducible rfl)
  try simp only [Act.put, List.setIfInBounds_toArray, List.set_cons_zero, List.set_cons_succ]
  refine restu_got (i := 21) (v := ?v20) rfl (by kernel_rfl) (by kernel_rfl) (by kernel_rfl) (by rfl) (fun _ _ _ h => h) (by rfl) ?y20 ?r20
  case y20 => (intro w9q hSwq; clear hSwq; go_simp; with_reducible rfl)
  try simp only [Act.put, List.setIfInBounds_toArray, List.set_cons_zero, List.set_cons_succ]
  refine restu_one (i := 22) (by kernel_rfl) rfl (by rfl) ?_
  go_wp2_with fail
  have hb6 := heap_setCell_same (i := 3) HB5.out (.slice la5 (n + 1) lc5)
  have m6 : Mod [g] w5 (w5.setCell ⟨g, 3, none⟩ (.slice la5 (n + 1) lc5)) := Mod.setCell _ _ _ (by simp)
  obtain ⟨w6, hw6⟩ : ∃ x, w5.setCell ⟨g, 3, none⟩ (.slice la5 (n + 1) lc5) = x := ⟨_, rfl⟩
  rw [hw6] at hb6 m6 ⊢
  refine backm_to (K1 := []) (by kernel_rfl) m6 (by simp) ?_
  have HB6 := Lib.hid hb6
  have MM6 := Lib.hid m6
  clear hb6 m6 hw6 c3 f3
  refine rest_done (by kernel_rfl) ?_ _
  go_wp2_with fail
  go_ret
  have hg5 : g ∉ blk la5 := fun hk => by
    rcases N5.out.blk g hk with h | h
    · exact hgl h
    · have := S4.out; omega
  refine ⟨by rw [HV0.out]; rfl, la5, lc5, l ++ [((⟨client, seq, kind, keys, old, fresh, nn⟩, kao, kcap), now + ag - wt)], ⟨?_, ?_, hg5, fun x hx => ?_⟩, ?_, ?_, ?_⟩
  · rw [List.length_append, HN.out]; exact HB6.out
  · exact Own.mod O5.out MM6.out (fun k hk h => by simp at h; subst h; exact hg5 hk)
  · rcases List.mem_append.1 hx with hx | hx
    · exact H4.out.each x hx
    · simp only [List.mem_singleton] at hx
      subst hx
      exact ⟨HK.out, HW.out⟩
  · rw [show putL ag now (rL l) _ wt = rL l ++ [(⟨client, seq, kind, keys, old, fresh, nn⟩, now + ag - wt)] from if_pos HV0.out]
    unfold rL
    rw [List.map_append]
    rfl
  · exact (M4.out.nil.trans' (M5.out.weaken (fun _ h => List.mem_cons_of_mem _ h))).trans MM6.out (fun k hk _ => by simp at hk; simp [hk])
  · rcases N5.out with h | ⟨g', h1, h2, h3⟩
    · exact .inl h
    · exact .inr ⟨g', h1, Nat.le_trans M4.out.size h2, Nat.lt_of_lt_of_le h3 MM6.out.size⟩
end Go.Proofs.YtigamomoegpefaaDoor
