/- Whether two messages are alike: the walks of slices.EqualFunc and msg.Same. -/
import Derived.Test.YtekdnljincbghaaDoorMsg10
namespace Go.Proofs.YtekdnljincbghaaDoor
open Go Go.RowKit Go.Lib

theorem take_eq_step {α : Type} [DecidableEq α] (a b : List α) (k : Nat) (h1 : k < a.length) (h2 : k < b.length) (h : a.take k = b.take k) : (a.take (k + 1) = b.take (k + 1)) ↔ a[k] = b[k] := by
  rw [List.take_succ_eq_append_getElem h1, List.take_succ_eq_append_getElem h2, h]
  constructor
  · intro h'
    have := List.append_cancel_left h'
    simpa using this
  · intro h'
    rw [h']
theorem dB_get (l : List Bs) (k : Nat) (h : k < l.length) (h' : k < (dB l).length) : (dB l)[k] = l[k].1 := List.getElem_map _
theorem dV_get (l : List Vm) (k : Nat) (h : k < l.length) (h' : k < (dV l).length) : (dV l)[k] = (l[k].1, l[k].2.1) := List.getElem_map _
set_option maxRecDepth 100000 in
theorem eqBs_any (so so' : Option Addr) (n n' c c' : Nat) (l l' : List Bs) (w : World) (hl : l.length = n) (hl' : l'.length = n') (hn : n ≤ 9223372036854775807) (hn' : n' ≤ 9223372036854775807) (h1 : SeesBs w so l) (h2 : SeesBs w so' l') :
    Calls Tryd.prog 48 #[.slice so n c, .slice so' n' c', .func (.func 38) #[] #[]] w fun e w' => e = .returned (.bool (decide (dB l = dB l'))) ∧ Mod [] w w' := by
  have H1 := Lib.hid h1
  have H2 := Lib.hid h2
  have HL := Lib.hid hl
  have HL' := Lib.hid hl'
  clear h1 h2
  by_cases hne : n = n'
  case neg =>
    have hno : ¬ dB l = dB l' := fun h => hne (by have := congrArg List.length h; rw [dB_length, dB_length] at this; omega)
    rw [decide_eq_false hno]
    have D : ((n : Int) != (n' : Int)) = true := by simp; omega
    clear hno hl hl' hne
    go_enter Tryd.func48, Tryd.ntmps48
    go_wp2_with fail
    go_ret
    exact ⟨rfl, Mod.refl _ _⟩
  subst hne
  clear hl hl'
  obtain ⟨mb, hmb⟩ : ∃ b, decide (dB l = dB l') = b := ⟨_, rfl⟩
  rw [hmb]
  have HV := Lib.hid hmb
  clear hmb
  go_enter Tryd.func48, Tryd.ntmps48
  go_wp2_with fail
  go_loopw [17] (fun s17 wr => ∃ k : Nat, k ≤ n ∧ s17 = .int .i64 (k : Int) ∧ (dB l).take k = (dB l').take k ∧ Mod [] w wr) (fun s17 _ => n - (intOf s17).toNat)
  case atStart => exact ⟨0, Nat.zero_le _, rfl, rfl, Mod.refl _ _⟩
  case round =>
    obtain ⟨k, hk, rfl, hall, hm⟩ := hrel
    rename World => wr
    have HA := Lib.hid hall
    have HM := Lib.hid hm
    clear hall hm
    by_cases hlt : k < n
    case neg =>
      have hke : k = n := by omega
      have HH : Hid (mb = true) := Lib.hid (by
        rw [← HV.out]
        have h := HA.out
        rw [List.take_of_length_le (by rw [dB_length, HL.out]; omega), List.take_of_length_le (by rw [dB_length, HL'.out]; omega)] at h
        exact decide_eq_true h)
      subst hke
      clear HA
      go_wp2_with fail
      go_ret
      exact ⟨by rw [HH.out]; rfl, HM.out⟩
    have hlt3 : (k : Int) < (n : Int) := by omega
    have g1 : k < l.length := by rw [HL.out]; exact hlt
    have g2 : k < l'.length := by rw [HL'.out]; exact hlt
    have d1 : k < (dB l).length := by rw [dB_length]; exact g1
    have d2 : k < (dB l').length := by rw [dB_length]; exact g2
    obtain ⟨b, off, rfl, hb⟩ := H1.out.batch g1
    obtain ⟨b', off', rfl, hb'⟩ := H2.out.batch g2
    obtain ⟨p0, p1⟩ := hb wr HM.out
    obtain ⟨q0, q1⟩ := hb' wr HM.out
    have hst := take_eq_step (dB l) (dB l') k d1 d2 HA.out
    have e1 := dB_get l k g1 d1
    have e2 := dB_get l' k g2 d2
    rw [e1, e2] at hst
    obtain ⟨⟨x, xo, xc⟩, hx⟩ : ∃ x, l[k] = x := ⟨_, rfl⟩
    obtain ⟨⟨y, yo, yc⟩, hy⟩ : ∃ x, l'[k] = x := ⟨_, rfl⟩
    rw [hx] at p0 p1 hst
    rw [hy] at q0 q1 hst
    dsimp only at p0 p1 q0 q1 hst
    have HST := Lib.hid hst
    have HC := Lib.hid (bequal_any xo yo x.length y.length xc yc x y wr rfl rfl p1 q1)
    obtain ⟨q, hq⟩ : ∃ q, decide (x = y) = q := ⟨_, rfl⟩
    rw [hq] at HC
    have HQ := Lib.hid hq
    clear hb hb' p1 q1 hst e1 e2 hx hy hq g1 g2 d1 d2
    go_wp2_with fail
    refine HC.out.mono ?_
    rintro e w2 ⟨rfl, rfl⟩
    cases q
    case false =>
      have HH : Hid (mb = false) := Lib.hid (by
        rw [← HV.out]
        refine decide_eq_false (fun h => of_decide_eq_false HQ.out (HST.out.1 ?_))
        rw [h])
      clear HC HST HQ
      go_wp2_with fail
      go_ret
      exact ⟨by rw [HH.out]; rfl, HM.out⟩
    have HA2 := Lib.hid (HST.out.2 (of_decide_eq_true HQ.out))
    clear HC HST HQ
    go_wp2_with fail
    go_roundw
    case rel => exact ⟨k + 1, by omega, by go_num, HA2.out, HM.out⟩
    case measure => simp [intOf]; omega
def voteV (v : Vm) : Value := .agg #[.int .u64 (v.1.slot : Int), .int .u64 (v.1.n : Int), .int .i64 v.1.r, .slice v.2.2.1 v.2.1.length v.2.2.2]
set_option maxRecDepth 100000 in
theorem sameV_any (x y : Vm) (w : World) (h1 : Sees w x.2.2.1 x.2.1) (h2 : Sees w y.2.2.1 y.2.1) :
    Calls Tryd.prog 47 #[voteV x, voteV y] w fun e w' => e = .returned (.bool (decide ((x.1, x.2.1) = (y.1, y.2.1)))) ∧ Mod [] w w' := by
  obtain ⟨⟨sl, n, r⟩, l, lo, lc⟩ := x
  obtain ⟨⟨sl', n', r'⟩, l', lo', lc'⟩ := y
  dsimp only at h1 h2 ⊢
  unfold voteV
  dsimp only
  have hiff : (((⟨sl, n, r⟩ : Vd), l) = ((⟨sl', n', r'⟩ : Vd), l')) ↔ (sl = sl' ∧ n = n' ∧ r = r' ∧ l = l') := by
    simp only [Prod.mk.injEq, Vd.mk.injEq]
    constructor
    · rintro ⟨⟨a, b, c⟩, d⟩; exact ⟨a, b, c, d⟩
    · rintro ⟨a, b, c, d⟩; exact ⟨⟨a, b, c⟩, d⟩
  obtain ⟨q, hq⟩ : ∃ q, decide (((⟨sl, n, r⟩ : Vd), l) = ((⟨sl', n', r'⟩ : Vd), l')) = q := ⟨_, rfl⟩
  rw [hq]
  have hqi : q = true ↔ (sl = sl' ∧ n = n' ∧ r = r' ∧ l = l') := by rw [← hq, decide_eq_true_eq]; exact hiff
  have HQ := Lib.hid hqi
  clear hq hiff hqi
  have ma := Mod.alloc [] w (.cells #[.int .u64 (sl : Int), .int .u64 (n : Int), .int .i64 r, .slice lo l.length lc] 52)
  have ha := heap_alloc_new w (.cells #[.int .u64 (sl : Int), .int .u64 (n : Int), .int .i64 r, .slice lo l.length lc] 52)
  obtain ⟨wa, hwa⟩ : ∃ x, w.alloc (.cells #[.int .u64 (sl : Int), .int .u64 (n : Int), .int .i64 r, .slice lo l.length lc] 52) = x := ⟨_, rfl⟩
  rw [hwa] at ma ha
  have mb := Mod.alloc [] wa (.cells #[.int .u64 (sl' : Int), .int .u64 (n' : Int), .int .i64 r', .slice lo' l'.length lc'] 52)
  have hb := heap_alloc_new wa (.cells #[.int .u64 (sl' : Int), .int .u64 (n' : Int), .int .i64 r', .slice lo' l'.length lc'] 52)
  obtain ⟨wb, hwb⟩ : ∃ x, wa.alloc (.cells #[.int .u64 (sl' : Int), .int .u64 (n' : Int), .int .i64 r', .slice lo' l'.length lc'] 52) = x := ⟨_, rfl⟩
  rw [hwb] at mb hb
  have ha2 := mb.get ha List.not_mem_nil
  have M := Lib.hid (ma.trans' mb)
  have HC := Lib.hid (bequal_any lo lo' l.length l'.length lc lc' l l' wb rfl rfl (h1.mod0 M.out) (h2.mod0 M.out))
  have a0 := cell_of_block (i := 0) ha2
  have a1 := cell_of_block (i := 1) ha2
  have a2 := cell_of_block (i := 2) ha2
  have a3 := cell_of_block (i := 3) ha2
  have b0 := cell_of_block (i := 0) hb
  have b1 := cell_of_block (i := 1) hb
  have b2 := cell_of_block (i := 2) hb
  have b3 := cell_of_block (i := 3) hb
  simp only [List.getElem?_toArray, List.getElem?_cons_succ, List.getElem?_cons_zero] at a0 a1 a2 a3 b0 b1 b2 b3
  clear h1 h2 ma mb ha hb ha2
  go_enter Tryd.func47, Tryd.ntmps47
  by_cases e1 : sl = sl'
  case neg =>
    have D : ((sl : Int) == (sl' : Int)) = false := by simp; omega
    have HH : Hid (q = false) := Lib.hid (by cases q; rfl; exact absurd (HQ.out.1 rfl).1 e1)
    clear e1
    go_wp2_with fail
    go_ret
    exact ⟨by rw [HH.out]; rfl, M.out⟩
  subst e1
  by_cases e2 : n = n'
  case neg =>
    have D : ((n : Int) == (n' : Int)) = false := by simp; omega
    have D2 : ((n : Int) = (n' : Int)) = False := by simp; omega
    have D3 : (n = n') = False := by simp; omega
    have HH : Hid (q = false) := Lib.hid (by cases q; rfl; exact absurd (HQ.out.1 rfl).2.1 e2)
    clear e2
    go_wp2_with fail
    go_ret
    exact ⟨by rw [HH.out]; rfl, M.out⟩
  subst e2
  by_cases e3 : r = r'
  case neg =>
    have D : (r == r') = false := by simp; omega
    have D3 : (r = r') = False := by simp; omega
    have HH : Hid (q = false) := Lib.hid (by cases q; rfl; exact absurd (HQ.out.1 rfl).2.2.1 e3)
    clear e3
    go_wp2_with fail
    go_ret
    exact ⟨by rw [HH.out]; rfl, M.out⟩
  subst e3
  obtain ⟨p, hp⟩ : ∃ p, decide (l = l') = p := ⟨_, rfl⟩
  rw [hp] at HC
  have HH : Hid (q = p) := Lib.hid (by
    cases p
    · cases q
      · rfl
      · exact absurd (HQ.out.1 rfl).2.2.2 (of_decide_eq_false hp)
    · exact HQ.out.2 ⟨rfl, rfl, rfl, of_decide_eq_true hp⟩)
  clear hp
  go_wp2_with fail
  refine HC.out.mono ?_
  rintro e w2 ⟨rfl, rfl⟩
  go_wp2_with fail
  go_ret
  exact ⟨by rw [HH.out]; rfl, M.out⟩
set_option maxRecDepth 100000 in
theorem eqVs_any (so so' : Option Addr) (n n' c c' : Nat) (l l' : List Vm) (w : World) (hl : l.length = n) (hl' : l'.length = n') (hn : n ≤ 9223372036854775807) (hn' : n' ≤ 9223372036854775807) (h1 : SeesVs w so l) (h2 : SeesVs w so' l') :
    Calls Tryd.prog 46 #[.slice so n c, .slice so' n' c', .func (.func 47) #[] #[]] w fun e w' => e = .returned (.bool (decide (dV l = dV l'))) ∧ Mod [] w w' := by
  have H1 := Lib.hid h1
  have H2 := Lib.hid h2
  have HL := Lib.hid hl
  have HL' := Lib.hid hl'
  clear h1 h2
  by_cases hne : n = n'
  case neg =>
    have hno : ¬ dV l = dV l' := fun h => hne (by have := congrArg List.length h; rw [dV_length, dV_length] at this; omega)
    rw [decide_eq_false hno]
    have D : ((n : Int) != (n' : Int)) = true := by simp; omega
    clear hno hl hl' hne
    go_enter Tryd.func46, Tryd.ntmps46
    go_wp2_with fail
    go_ret
    exact ⟨rfl, Mod.refl _ _⟩
  subst hne
  clear hl hl'
  obtain ⟨mb, hmb⟩ : ∃ b, decide (dV l = dV l') = b := ⟨_, rfl⟩
  rw [hmb]
  have HV := Lib.hid hmb
  clear hmb
  go_enter Tryd.func46, Tryd.ntmps46
  go_wp2_with fail
  go_loopw [17] (fun s17 wr => ∃ k : Nat, k ≤ n ∧ s17 = .int .i64 (k : Int) ∧ (dV l).take k = (dV l').take k ∧ Mod [] w wr) (fun s17 _ => n - (intOf s17).toNat)
  case atStart => exact ⟨0, Nat.zero_le _, rfl, rfl, Mod.refl _ _⟩
  case round =>
    obtain ⟨k, hk, rfl, hall, hm⟩ := hrel
    rename World => wr
    have HA := Lib.hid hall
    have HM := Lib.hid hm
    clear hall hm
    by_cases hlt : k < n
    case neg =>
      have hke : k = n := by omega
      have HH : Hid (mb = true) := Lib.hid (by
        rw [← HV.out]
        have h := HA.out
        rw [List.take_of_length_le (by rw [dV_length, HL.out]; omega), List.take_of_length_le (by rw [dV_length, HL'.out]; omega)] at h
        exact decide_eq_true h)
      subst hke
      clear HA
      go_wp2_with fail
      go_ret
      exact ⟨by rw [HH.out]; rfl, HM.out⟩
    have hlt3 : (k : Int) < (n : Int) := by omega
    have g1 : k < l.length := by rw [HL.out]; exact hlt
    have g2 : k < l'.length := by rw [HL'.out]; exact hlt
    have d1 : k < (dV l).length := by rw [dV_length]; exact g1
    have d2 : k < (dV l').length := by rw [dV_length]; exact g2
    obtain ⟨b, off, rfl, hb⟩ := H1.out.vote g1
    obtain ⟨b', off', rfl, hb'⟩ := H2.out.vote g2
    obtain ⟨p0, p1, p2, p3, ps⟩ := hb wr HM.out
    obtain ⟨q0, q1, q2, q3, qs⟩ := hb' wr HM.out
    have hst := take_eq_step (dV l) (dV l') k d1 d2 HA.out
    have e1 := dV_get l k g1 d1
    have e2 := dV_get l' k g2 d2
    rw [e1, e2] at hst
    obtain ⟨⟨⟨sl, n1, r1⟩, x, xo, xc⟩, hx⟩ : ∃ x, l[k] = x := ⟨_, rfl⟩
    obtain ⟨⟨⟨sl', n1', r1'⟩, y, yo, yc⟩, hy⟩ : ∃ x, l'[k] = x := ⟨_, rfl⟩
    rw [hx] at p0 p1 p2 p3 ps hst
    rw [hy] at q0 q1 q2 q3 qs hst
    dsimp only at p0 p1 p2 p3 ps q0 q1 q2 q3 qs hst
    have HST := Lib.hid hst
    have ma := Mod.alloc [] wr (.cells #[.int .u64 (sl : Int), .int .u64 (n1 : Int), .int .i64 r1, .slice xo x.length xc] 52)
    have ha := heap_alloc_new wr (.cells #[.int .u64 (sl : Int), .int .u64 (n1 : Int), .int .i64 r1, .slice xo x.length xc] 52)
    obtain ⟨wa, hwa⟩ : ∃ x', wr.alloc (.cells #[.int .u64 (sl : Int), .int .u64 (n1 : Int), .int .i64 r1, .slice xo x.length xc] 52) = x' := ⟨_, rfl⟩
    rw [hwa] at ma ha
    have mb := Mod.alloc [] wa (.cells #[.int .u64 (sl' : Int), .int .u64 (n1' : Int), .int .i64 r1', .slice yo y.length yc] 52)
    have hbb := heap_alloc_new wa (.cells #[.int .u64 (sl' : Int), .int .u64 (n1' : Int), .int .i64 r1', .slice yo y.length yc] 52)
    obtain ⟨wb, hwb⟩ : ∃ x', wa.alloc (.cells #[.int .u64 (sl' : Int), .int .u64 (n1' : Int), .int .i64 r1', .slice yo y.length yc] 52) = x' := ⟨_, rfl⟩
    rw [hwb] at mb hbb
    have ha2 := mb.get ha List.not_mem_nil
    have HMB := Lib.hid (HM.out.trans' (ma.trans' mb))
    replace q0 := ma.cell q0 List.not_mem_nil
    replace q1 := ma.cell q1 List.not_mem_nil
    replace q2 := ma.cell q2 List.not_mem_nil
    replace q3 := ma.cell q3 List.not_mem_nil
    replace ps := ps.mod0 (ma.trans' mb)
    replace qs := qs.mod0 (ma.trans' mb)
    have a0 := cell_of_block (i := 0) ha2
    have a1 := cell_of_block (i := 1) ha2
    have a2 := cell_of_block (i := 2) ha2
    have a3 := cell_of_block (i := 3) ha2
    have b0 := cell_of_block (i := 0) hbb
    have b1 := cell_of_block (i := 1) hbb
    have b2 := cell_of_block (i := 2) hbb
    have b3 := cell_of_block (i := 3) hbb
    simp only [List.getElem?_toArray, List.getElem?_cons_succ, List.getElem?_cons_zero] at a0 a1 a2 a3 b0 b1 b2 b3
    clear ma mb ha hbb ha2
    have HC := Lib.hid (sameV_any (⟨sl, n1, r1⟩, x, xo, xc) (⟨sl', n1', r1'⟩, y, yo, yc) wb ps qs)
    unfold voteV at HC
    dsimp only at HC
    obtain ⟨q, hq⟩ : ∃ q, decide (((⟨sl, n1, r1⟩ : Vd), x) = ((⟨sl', n1', r1'⟩ : Vd), y)) = q := ⟨_, rfl⟩
    rw [hq] at HC
    have HQ := Lib.hid hq
    clear hb hb' ps qs hst e1 e2 hx hy hq g1 g2 d1 d2
    go_wp2_with fail
    refine HC.out.mono ?_
    rintro e w2 ⟨rfl, m2⟩
    have HM2 := Lib.hid (HMB.out.trans' m2)
    clear m2 HMB
    cases q
    case false =>
      have HH : Hid (mb = false) := Lib.hid (by
        rw [← HV.out]
        refine decide_eq_false (fun h => of_decide_eq_false HQ.out (HST.out.1 ?_))
        rw [h])
      clear HC HST HQ
      go_wp2_with fail
      go_ret
      exact ⟨by rw [HH.out]; rfl, HM2.out⟩
    have HA2 := Lib.hid (HST.out.2 (of_decide_eq_true HQ.out))
    clear HC HST HQ
    go_wp2_with fail
    go_roundw
    case rel => exact ⟨k + 1, by omega, by go_num, HA2.out, HM2.out⟩
    case measure => simp [intOf]; omega
end Go.Proofs.YtekdnljincbghaaDoor
