/- The walk of msg.Check. -/
import Derived.Test.YtekdnljincbghaaDoorMsg2
import Derived.BigQuiet
import Derived.Deep.CutRange
import Derived.Deep.CutRange
namespace Go.Proofs.YtekdnljincbghaaDoor
open Go Go.RowKit Go.Lib

/-- May a message be? -/
def MayM (d : Md) : Prop :=
  Known d.h.kind ∧ ¬ (98 ∉ Fl d.h.kind ∧ ¬ (d.h.bn = 0 ∧ d.h.br = 0)) ∧ Place d.h.br ∧ ¬ (99 ∉ Fl d.h.kind ∧ d.h.commit ≠ 0) ∧ (102 ∉ Fl d.h.kind ↔ d.h.first = 0) ∧ ¬ (108 ∉ Fl d.h.kind ∧ d.h.last ≠ 0) ∧ ¬ (108 ∈ Fl d.h.kind ∧ d.h.last < d.h.first) ∧
    ¬ (112 ∉ Fl d.h.kind ∧ 0 < d.snap.length) ∧ ¬ (115 ∉ Fl d.h.kind ∧ 0 < d.batches.length) ∧ ¬ (118 ∉ Fl d.h.kind ∧ 0 < d.votes.length) ∧ Lists d
instance (d : Md) : Decidable (MayM d) := inferInstanceAs (Decidable (_ ∧ _))
def checkE (d : Md) : Int := if MayM d then 0 else 1
theorem checkE_no {d : Md} (h : ¬ MayM d) : checkE d = 1 := if_neg h
theorem not_dec {c : UInt8} {l : List UInt8} {q : Bool} (h : (!decide (c ∈ l)) = q) : if q then c ∉ l else c ∈ l := by
  subst h
  by_cases hc : c ∈ l <;> simp [hc]

set_option maxRecDepth 100000 in
set_option maxHeartbeats 8000000 in
theorem check_any (m : Mm) (w : World) (hs : SeesM w m) (hw : WfM m) (hf : Flds w) : Calls Tryd.prog 13 #[msgV m] w fun e w' => e = .returned (.int .i64 (checkE m.d)) ∧ Mod [] w w' := by
  have HM0 : Hid (∀ w', Mod [] w w' → Calls Tryd.prog 27 #[msgV m] w' fun e w'' => e = .returned (.bool (decide (Lists m.d))) ∧ Mod [] w' w'') := Lib.hid (fun w' hm => lists_any m w' (hs.mod0 hm) hw)
  have hdl : m.d.batches.length = m.batches.length ∧ m.d.votes.length = m.votes.length := ⟨by unfold Mm.d; rw [dB_length], by unfold Mm.d; rw [dV_length]⟩
  obtain ⟨d, hd⟩ : ∃ x, m.d = x := ⟨_, rfl⟩
  rw [hd] at HM0 hdl ⊢
  have hdh : d.h = m.h ∧ d.snap = m.p.1 := by rw [← hd]; exact ⟨rfl, rfl⟩
  obtain ⟨⟨kind, bn, br, first, last, commit⟩, vo, vc, votes, so, sc, batches, pl, po, pc⟩ := m
  dsimp only at hdh hdl
  obtain ⟨hdh, hds⟩ := hdh
  obtain ⟨hdb, hdv⟩ := hdl
  have hcb := hw.h
  unfold WfH at hcb
  dsimp only at hcb
  have hb := heap_alloc_new w (.cells #[.int .u8 (kind : Int), .int .u64 (bn : Int), .int .i64 br, .int .u64 (first : Int), .int .u64 (last : Int), .int .u64 (commit : Int), .slice vo votes.length vc, .slice so batches.length sc, .slice po pl.length pc] 29)
  have m1 := Mod.alloc [] w (.cells #[.int .u8 (kind : Int), .int .u64 (bn : Int), .int .i64 br, .int .u64 (first : Int), .int .u64 (last : Int), .int .u64 (commit : Int), .slice vo votes.length vc, .slice so batches.length sc, .slice po pl.length pc] 29)
  obtain ⟨w1, hw1⟩ : ∃ x, w.alloc (.cells #[.int .u8 (kind : Int), .int .u64 (bn : Int), .int .i64 br, .int .u64 (first : Int), .int .u64 (last : Int), .int .u64 (commit : Int), .slice vo votes.length vc, .slice so batches.length sc, .slice po pl.length pc] 29) = x := ⟨_, rfl⟩
  rw [hw1] at hb m1
  have hMay : MayM d ↔ (Known kind ∧ ¬ (98 ∉ Fl kind ∧ ¬ (bn = 0 ∧ br = 0)) ∧ Place br ∧ ¬ (99 ∉ Fl kind ∧ commit ≠ 0) ∧ (102 ∉ Fl kind ↔ first = 0) ∧ ¬ (108 ∉ Fl kind ∧ last ≠ 0) ∧ ¬ (108 ∈ Fl kind ∧ last < first) ∧
    ¬ (112 ∉ Fl kind ∧ 0 < pl.length) ∧ ¬ (115 ∉ Fl kind ∧ 0 < batches.length) ∧ ¬ (118 ∉ Fl kind ∧ 0 < votes.length) ∧ Lists d) := by
    unfold MayM
    rw [hdh, hds, hdb, hdv]
  have HMY := Lib.hid hMay
  have HF := Lib.hid (hf.mod0 m1)
  have M1 := Lib.hid m1
  have HK := Lib.hid (known_any kind w1 HF.out)
  have c0 := cell_of_block (i := 0) hb
  have HNO : Hid (∀ c, Known kind → ∀ wx, Mod [] w1 wx → Calls Tryd.prog 24 #[.string ⟨#[c]⟩, .pointer (some ⟨w.heap.size, 0, none⟩)] wx fun e w' => e = .returned (.bool (!decide (c ∈ Fl kind))) ∧ w' = wx) := Lib.hid (fun c hk wx hm => no_any w.heap.size kind c wx (by have := hk.2; omega) (hm.cell c0 List.not_mem_nil) (HF.out.mod0 hm))
  have c1 := cell_of_block (i := 1) hb
  have c2 := cell_of_block (i := 2) hb
  have c3 := cell_of_block (i := 3) hb
  have c4 := cell_of_block (i := 4) hb
  have c5 := cell_of_block (i := 5) hb
  have c6 := cell_of_block (i := 6) hb
  have c7 := cell_of_block (i := 7) hb
  have c8 := cell_of_block (i := 8) hb
  have HL := Lib.hid HM0.out
  have HB := Lib.hid hb
  clear hs hw hf hb m1 hMay HM0 hd hdh hds hdb hdv
  unfold msgV mC
  dsimp only
  obtain ⟨vl, hvl⟩ : ∃ n, votes.length = n := ⟨_, rfl⟩
  obtain ⟨bl, hbl⟩ : ∃ n, batches.length = n := ⟨_, rfl⟩
  obtain ⟨sl, hsl⟩ : ∃ n, pl.length = n := ⟨_, rfl⟩
  unfold msgV mC at HL
  dsimp only at HL
  rw [hvl, hbl, hsl] at HL HMY hw1 c0 c1 c2 c3 c4 c5 c6 c7 c8 HB ⊢
  clear hvl hbl hsl
  go_enter Tryd.func13, Tryd.ntmps13
  go_wp2_with fail
  refine HK.out.mono ?_
  rintro e w2 ⟨rfl, he⟩
  subst he
  obtain ⟨q, hq⟩ : ∃ q, decide (Known kind) = q := ⟨_, rfl⟩
  rw [hq]
  cases q
  case false =>
    have HH := Lib.hid (checkE_no (fun h => (of_decide_eq_false hq) (HMY.out.1 h).1))
    clear hq HK
    go_wp2_with fail
    go_ret
    exact ⟨by rw [HH.out]; rfl, M1.out⟩
  have HKN := Lib.hid (of_decide_eq_true hq)
  clear hq HK
  obtain ⟨ta, Hta⟩ : ∃ q : Bool, Hid (q = true ↔ (98 ∉ Fl kind ∧ ¬ (bn = 0 ∧ br = 0))) := ⟨decide (98 ∉ Fl kind ∧ ¬ (bn = 0 ∧ br = 0)), Lib.hid (decide_eq_true_iff)⟩
  go_upto_region 4 with (fail)
  go_cut [10] from 11 to 18 (fun s wx => s = .bool ta ∧ w2 = wx)
  case first =>
    have HC := Lib.hid (HNO.out 98 HKN.out w2 (by first | exact Mod.refl _ _ | exact MX.out))
    go_wp2_with fail
    refine HC.out.mono ?_
    rintro e w4 ⟨rfl, he⟩
    subst he
    obtain ⟨q, hq⟩ : ∃ q, (!decide (98 ∈ Fl kind)) = q := ⟨_, rfl⟩
    rw [hq]
    have HQ := Lib.hid (not_dec hq)
    clear hq HC
    cases q
    case false =>
      obtain rfl : ta = false := by
        cases ta
        · rfl
        · exact absurd (Hta.out.1 rfl).1 (by have := HQ.out; simpa using this)
      go_wp2_with fail
      go_meet
      exact ⟨rfl, rfl⟩
    by_cases hX : ¬ (bn = 0 ∧ br = 0)
    · obtain rfl : ta = true := Hta.out.2 ⟨by have := HQ.out; simpa using this, hX⟩
      by_cases h0 : bn = 0
      · have E1 : (bn = 0) = True := eq_true h0
        have E2 : (br = 0) = False := eq_false (fun h => hX ⟨h0, h⟩)
        clear hX h0
        go_wp2_with fail
        go_meet
        exact ⟨rfl, rfl⟩
      · have E1 : (bn = 0) = False := eq_false h0
        clear hX h0
        go_wp2_with fail
        go_meet
        exact ⟨rfl, rfl⟩
    · obtain rfl : ta = false := by
        cases ta
        · rfl
        · exact absurd (Hta.out.1 rfl).2 hX
      have h0 := Classical.not_not.1 hX
      have E1 : (bn = 0) = True := eq_true h0.1
      have E2 : (br = 0) = True := eq_true h0.2
      clear hX h0
      go_wp2_with fail
      go_meet
      exact ⟨rfl, rfl⟩
  case rest =>
  obtain ⟨rfl, rfl⟩ := hcut
  cases ta
  case true =>
    have HH := Lib.hid (checkE_no (fun h => (HMY.out.1 h).2.1 (Hta.out.1 rfl)))
    go_wp2_with fail
    go_ret
    exact ⟨by rw [HH.out]; rfl, M1.out⟩
  have HP := Lib.hid (place_any (bn : Int) br w2)
  go_wp2_with fail
  refine HP.out.mono ?_
  rintro e w3 ⟨rfl, m3⟩
  have MX := Lib.hid m3
  have MW := Lib.hid (M1.out.trans' m3)
  have HB3 := Lib.hid (m3.get HB.out List.not_mem_nil)
  clear m3 HP c0 c1 c2 c3 c4 c5 c6 c7 c8 hw1
  obtain ⟨q, hq⟩ : ∃ q, decide (Place br) = q := ⟨_, rfl⟩
  rw [hq]
  cases q
  case false =>
    have HH := Lib.hid (checkE_no (fun h => (of_decide_eq_false hq) (HMY.out.1 h).2.2.1))
    clear hq
    go_wp2_with fail
    go_ret
    exact ⟨by rw [HH.out]; rfl, MW.out⟩
  have HPL := Lib.hid (of_decide_eq_true hq)
  clear hq
  have c0 := cell_of_block (i := 0) HB3.out
  have c3 := cell_of_block (i := 3) HB3.out
  have c4 := cell_of_block (i := 4) HB3.out
  have c5 := cell_of_block (i := 5) HB3.out
  have c6 := cell_of_block (i := 6) HB3.out
  have c7 := cell_of_block (i := 7) HB3.out
  have c8 := cell_of_block (i := 8) HB3.out
  obtain ⟨tc, Htc⟩ : ∃ q : Bool, Hid (q = true ↔ (99 ∉ Fl kind ∧ commit ≠ 0)) := ⟨decide (99 ∉ Fl kind ∧ commit ≠ 0), Lib.hid (decide_eq_true_iff)⟩
  go_upto_region 6 with (fail)
  go_cut [10] from 23 to 29 (fun s wx => s = .bool tc ∧ w3 = wx)
  case first =>
    have HC := Lib.hid (HNO.out 99 HKN.out w3 (by first | exact Mod.refl _ _ | exact MX.out))
    go_wp2_with fail
    refine HC.out.mono ?_
    rintro e w4 ⟨rfl, he⟩
    subst he
    obtain ⟨q, hq⟩ : ∃ q, (!decide (99 ∈ Fl kind)) = q := ⟨_, rfl⟩
    rw [hq]
    have HQ := Lib.hid (not_dec hq)
    clear hq HC
    cases q
    case false =>
      obtain rfl : tc = false := by
        cases tc
        · rfl
        · exact absurd (Htc.out.1 rfl).1 (by have := HQ.out; simpa using this)
      go_wp2_with fail
      go_meet
      exact ⟨rfl, rfl⟩
    by_cases hX : commit ≠ 0
    · obtain rfl : tc = true := Htc.out.2 ⟨by have := HQ.out; simpa using this, hX⟩
      have D : ((commit : Int) != 0) = true := by
        rw [bne_iff_ne]
        omega
      clear hX
      go_wp2_with fail
      go_meet
      exact ⟨rfl, rfl⟩
    · obtain rfl : tc = false := by
        cases tc
        · rfl
        · exact absurd (Htc.out.1 rfl).2 hX
      have D : ((commit : Int) != 0) = false := by
        rw [bne_eq_false_iff_eq]
        omega
      clear hX
      go_wp2_with fail
      go_meet
      exact ⟨rfl, rfl⟩
  case rest =>
  obtain ⟨rfl, rfl⟩ := hcut
  cases tc
  case true =>
    have HH := Lib.hid (checkE_no (fun h => (HMY.out.1 h).2.2.2.1 (Htc.out.1 rfl)))
    go_wp2_with fail
    go_ret
    exact ⟨by rw [HH.out]; rfl, MW.out⟩
  obtain ⟨tf, Htf⟩ : ∃ q : Bool, Hid (q = true ↔ (¬ (102 ∉ Fl kind ↔ first = 0))) := ⟨decide (¬ (102 ∉ Fl kind ↔ first = 0)), Lib.hid (decide_eq_true_iff)⟩
  go_upto_region 7 with (fail)
  go_cut [10] from 30 to 35 (fun s wx => s = .bool tf ∧ Mod [] w3 wx)
  case first =>
    obtain ⟨nf, hnf⟩ : ∃ q, (!decide (102 ∈ Fl kind)) = q := ⟨_, rfl⟩
    have HC : Hid (∀ k, Calls Tryd.prog 24 #[.string ⟨#[102]⟩, .pointer (some ⟨w.heap.size, 0, none⟩)] (w3.drewN k) fun e w' => e = .returned (.bool nf) ∧ w' = w3.drewN k) := Lib.hid (fun k => by
      have h := HNO.out 102 HKN.out (w3.drewN k) (MX.out.trans0 (Mod.drewN _ _ _))
      rw [hnf] at h
      exact h)
    have HQ := Lib.hid (not_dec hnf)
    clear hnf
    obtain ⟨z, hz⟩ : ∃ z, ((first : Int) == 0) = z := ⟨_, rfl⟩
    have HZ : Hid (z = true ↔ first = 0) := Lib.hid (by
      rw [← hz, beq_iff_eq]
      omega)
    obtain rfl : tf = (nf != z) := by
      have h1 := Htf.out
      have h2 := HQ.out
      have h3 := HZ.out
      cases nf <;> cases z <;> cases tf <;> simp at h1 h2 h3 ⊢ <;> simp_all
    clear Htf HQ HZ
    cases nf <;> cases z
    all_goals
      go_quiet ((refine Calls.quiet_of_same (HC.out _)))
      go_wp2
      go_meet
      exact ⟨rfl, Mod.drewN _ _ _⟩
  case rest =>
  obtain ⟨rfl, hm7⟩ := hcut
  have MX7 := Lib.hid (MX.out.trans' hm7)
  have MW7 := Lib.hid (MW.out.trans' hm7)
  have HB7 := Lib.hid (hm7.get HB3.out List.not_mem_nil)
  clear hm7 HB3 c0 c3 c4 c5 c6 c7 c8 MX MW
  rename World => w6
  have MX := Lib.hid MX7.out
  have MW := Lib.hid MW7.out
  clear MX7 MW7
  cases tf
  case true =>
    have HH := Lib.hid (checkE_no (fun h => (Htf.out.1 rfl) (HMY.out.1 h).2.2.2.2.1))
    go_wp2_with fail
    go_ret
    exact ⟨by rw [HH.out]; rfl, MW.out⟩
  have c0 := cell_of_block (i := 0) HB7.out
  have c1 := cell_of_block (i := 1) HB7.out
  have c2 := cell_of_block (i := 2) HB7.out
  have c3 := cell_of_block (i := 3) HB7.out
  have c4 := cell_of_block (i := 4) HB7.out
  have c5 := cell_of_block (i := 5) HB7.out
  have c6 := cell_of_block (i := 6) HB7.out
  have c7 := cell_of_block (i := 7) HB7.out
  have c8 := cell_of_block (i := 8) HB7.out
  obtain ⟨te, Hte⟩ : ∃ q : Bool, Hid (q = true ↔ (108 ∉ Fl kind ∧ last ≠ 0)) := ⟨decide (108 ∉ Fl kind ∧ last ≠ 0), Lib.hid (decide_eq_true_iff)⟩
  go_upto_region 8 with (fail)
  go_cut [10] from 36 to 42 (fun s wx => s = .bool te ∧ w6 = wx)
  case first =>
    have HC := Lib.hid (HNO.out 108 HKN.out w6 (by first | exact Mod.refl _ _ | exact MX.out))
    go_wp2_with fail
    refine HC.out.mono ?_
    rintro e w4 ⟨rfl, he⟩
    subst he
    obtain ⟨q, hq⟩ : ∃ q, (!decide (108 ∈ Fl kind)) = q := ⟨_, rfl⟩
    rw [hq]
    have HQ := Lib.hid (not_dec hq)
    clear hq HC
    cases q
    case false =>
      obtain rfl : te = false := by
        cases te
        · rfl
        · exact absurd (Hte.out.1 rfl).1 (by have := HQ.out; simpa using this)
      go_wp2_with fail
      go_meet
      exact ⟨rfl, rfl⟩
    by_cases hX : last ≠ 0
    · obtain rfl : te = true := Hte.out.2 ⟨by have := HQ.out; simpa using this, hX⟩
      have D : ((last : Int) != 0) = true := by
        rw [bne_iff_ne]
        omega
      clear hX
      go_wp2_with fail
      go_meet
      exact ⟨rfl, rfl⟩
    · obtain rfl : te = false := by
        cases te
        · rfl
        · exact absurd (Hte.out.1 rfl).2 hX
      have D : ((last : Int) != 0) = false := by
        rw [bne_eq_false_iff_eq]
        omega
      clear hX
      go_wp2_with fail
      go_meet
      exact ⟨rfl, rfl⟩
  case rest =>
  obtain ⟨rfl, rfl⟩ := hcut
  cases te
  case true =>
    have HH := Lib.hid (checkE_no (fun h => (HMY.out.1 h).2.2.2.2.2.1 (Hte.out.1 rfl)))
    go_wp2_with fail
    go_ret
    exact ⟨by rw [HH.out]; rfl, MW.out⟩
  obtain ⟨tg, Htg⟩ : ∃ q : Bool, Hid (q = true ↔ (108 ∈ Fl kind ∧ last < first)) := ⟨decide (108 ∈ Fl kind ∧ last < first), Lib.hid (decide_eq_true_iff)⟩
  go_upto_region 9 with (fail)
  go_cut [10] from 43 to 52 (fun s wx => s = .bool tg ∧ w6 = wx)
  case first =>
    have HC := Lib.hid (HNO.out 108 HKN.out w6 (by first | exact Mod.refl _ _ | exact MX.out))
    go_wp2_with fail
    refine HC.out.mono ?_
    rintro e w4 ⟨rfl, he⟩
    subst he
    obtain ⟨q, hq⟩ : ∃ q, (!decide (108 ∈ Fl kind)) = q := ⟨_, rfl⟩
    rw [hq]
    have HQ := Lib.hid (not_dec hq)
    clear hq HC
    cases q
    case true =>
      obtain rfl : tg = false := by
        cases tg
        · rfl
        · exact absurd (Htg.out.1 rfl).1 (by have := HQ.out; simpa using this)
      go_wp2_with fail
      go_meet
      exact ⟨rfl, rfl⟩
    by_cases hX : last < first
    · obtain rfl : tg = true := Htg.out.2 ⟨by have := HQ.out; simpa using this, hX⟩
      have D : decide (last < first) = true := decide_eq_true hX
      clear hX
      go_wp2_with fail
      go_meet
      exact ⟨rfl, rfl⟩
    · obtain rfl : tg = false := by
        cases tg
        · rfl
        · exact absurd (Htg.out.1 rfl).2 hX
      have D : decide (last < first) = false := decide_eq_false hX
      clear hX
      go_wp2_with fail
      go_meet
      exact ⟨rfl, rfl⟩
  case rest =>
  obtain ⟨rfl, rfl⟩ := hcut
  cases tg
  case true =>
    have HH := Lib.hid (checkE_no (fun h => (HMY.out.1 h).2.2.2.2.2.2.1 (Htg.out.1 rfl)))
    go_wp2_with fail
    go_ret
    exact ⟨by rw [HH.out]; rfl, MW.out⟩
  obtain ⟨tp, Htp⟩ : ∃ q : Bool, Hid (q = true ↔ (112 ∉ Fl kind ∧ 0 < sl)) := ⟨decide (112 ∉ Fl kind ∧ 0 < sl), Lib.hid (decide_eq_true_iff)⟩
  go_upto_region 11 with (fail)
  go_cut [53] from 54 to 61 (fun s wx => s = .bool tp ∧ w6 = wx)
  case first =>
    have HC := Lib.hid (HNO.out 112 HKN.out w6 (by first | exact Mod.refl _ _ | exact MX.out))
    go_wp2_with fail
    refine HC.out.mono ?_
    rintro e w4 ⟨rfl, he⟩
    subst he
    obtain ⟨q, hq⟩ : ∃ q, (!decide (112 ∈ Fl kind)) = q := ⟨_, rfl⟩
    rw [hq]
    have HQ := Lib.hid (not_dec hq)
    clear hq HC
    cases q
    case false =>
      obtain rfl : tp = false := by
        cases tp
        · rfl
        · exact absurd (Htp.out.1 rfl).1 (by have := HQ.out; simpa using this)
      go_wp2_with fail
      go_meet
      exact ⟨rfl, rfl⟩
    by_cases hX : 0 < sl
    · obtain rfl : tp = true := Htp.out.2 ⟨by have := HQ.out; simpa using this, hX⟩
      have D : decide (0 < sl) = true := decide_eq_true hX
      clear hX
      go_wp2_with fail
      go_meet
      exact ⟨rfl, rfl⟩
    · obtain rfl : tp = false := by
        cases tp
        · rfl
        · exact absurd (Htp.out.1 rfl).2 hX
      have D : decide (0 < sl) = false := decide_eq_false hX
      clear hX
      go_wp2_with fail
      go_meet
      exact ⟨rfl, rfl⟩
  case rest =>
  obtain ⟨rfl, rfl⟩ := hcut
  cases tp
  case true =>
    have HH := Lib.hid (checkE_no (fun h => (HMY.out.1 h).2.2.2.2.2.2.2.1 (Htp.out.1 rfl)))
    go_wp2_with fail
    go_ret
    exact ⟨by rw [HH.out]; rfl, MW.out⟩
  obtain ⟨ts, Hts⟩ : ∃ q : Bool, Hid (q = true ↔ (115 ∉ Fl kind ∧ 0 < bl)) := ⟨decide (115 ∉ Fl kind ∧ 0 < bl), Lib.hid (decide_eq_true_iff)⟩
  go_upto_region 12 with (fail)
  go_cut [53] from 62 to 69 (fun s wx => s = .bool ts ∧ w6 = wx)
  case first =>
    have HC := Lib.hid (HNO.out 115 HKN.out w6 (by first | exact Mod.refl _ _ | exact MX.out))
    go_wp2_with fail
    refine HC.out.mono ?_
    rintro e w4 ⟨rfl, he⟩
    subst he
    obtain ⟨q, hq⟩ : ∃ q, (!decide (115 ∈ Fl kind)) = q := ⟨_, rfl⟩
    rw [hq]
    have HQ := Lib.hid (not_dec hq)
    clear hq HC
    cases q
    case false =>
      obtain rfl : ts = false := by
        cases ts
        · rfl
        · exact absurd (Hts.out.1 rfl).1 (by have := HQ.out; simpa using this)
      go_wp2_with fail
      go_meet
      exact ⟨rfl, rfl⟩
    by_cases hX : 0 < bl
    · obtain rfl : ts = true := Hts.out.2 ⟨by have := HQ.out; simpa using this, hX⟩
      have D : decide (0 < bl) = true := decide_eq_true hX
      clear hX
      go_wp2_with fail
      go_meet
      exact ⟨rfl, rfl⟩
    · obtain rfl : ts = false := by
        cases ts
        · rfl
        · exact absurd (Hts.out.1 rfl).2 hX
      have D : decide (0 < bl) = false := decide_eq_false hX
      clear hX
      go_wp2_with fail
      go_meet
      exact ⟨rfl, rfl⟩
  case rest =>
  obtain ⟨rfl, rfl⟩ := hcut
  cases ts
  case true =>
    have HH := Lib.hid (checkE_no (fun h => (HMY.out.1 h).2.2.2.2.2.2.2.2.1 (Hts.out.1 rfl)))
    go_wp2_with fail
    go_ret
    exact ⟨by rw [HH.out]; rfl, MW.out⟩
  obtain ⟨tv, Htv⟩ : ∃ q : Bool, Hid (q = true ↔ (118 ∉ Fl kind ∧ 0 < vl)) := ⟨decide (118 ∉ Fl kind ∧ 0 < vl), Lib.hid (decide_eq_true_iff)⟩
  go_upto_region 13 with (fail)
  go_cut [53] from 70 to 77 (fun s wx => s = .bool tv ∧ w6 = wx)
  case first =>
    have HC := Lib.hid (HNO.out 118 HKN.out w6 (by first | exact Mod.refl _ _ | exact MX.out))
    go_wp2_with fail
    refine HC.out.mono ?_
    rintro e w4 ⟨rfl, he⟩
    subst he
    obtain ⟨q, hq⟩ : ∃ q, (!decide (118 ∈ Fl kind)) = q := ⟨_, rfl⟩
    rw [hq]
    have HQ := Lib.hid (not_dec hq)
    clear hq HC
    cases q
    case false =>
      obtain rfl : tv = false := by
        cases tv
        · rfl
        · exact absurd (Htv.out.1 rfl).1 (by have := HQ.out; simpa using this)
      go_wp2_with fail
      go_meet
      exact ⟨rfl, rfl⟩
    by_cases hX : 0 < vl
    · obtain rfl : tv = true := Htv.out.2 ⟨by have := HQ.out; simpa using this, hX⟩
      have D : decide (0 < vl) = true := decide_eq_true hX
      clear hX
      go_wp2_with fail
      go_meet
      exact ⟨rfl, rfl⟩
    · obtain rfl : tv = false := by
        cases tv
        · rfl
        · exact absurd (Htv.out.1 rfl).2 hX
      have D : decide (0 < vl) = false := decide_eq_false hX
      clear hX
      go_wp2_with fail
      go_meet
      exact ⟨rfl, rfl⟩
  case rest =>
  obtain ⟨rfl, rfl⟩ := hcut
  cases tv
  case true =>
    have HH := Lib.hid (checkE_no (fun h => (HMY.out.1 h).2.2.2.2.2.2.2.2.2.1 (Htv.out.1 rfl)))
    go_wp2_with fail
    go_ret
    exact ⟨by rw [HH.out]; rfl, MW.out⟩
  have HLL := Lib.hid (HL.out w6 MW.out)
  go_wp2_with fail
  refine HLL.out.mono ?_
  rintro e w7 ⟨rfl, m7⟩
  have M7 := Lib.hid (MW.out.trans' m7)
  have HE : Hid (checkE d = if decide (Lists d) then 0 else 1) := Lib.hid (by
    have hn : ∀ {b : Bool} {p : Prop}, (b = true ↔ p) → b = false → ¬ p := fun h hb hp => by rw [h.2 hp] at hb; exact absurd hb (by decide)
    have h1 := hn Hta.out rfl
    have h2 := hn Htc.out rfl
    have h3 := Classical.not_not.1 (hn Htf.out rfl)
    have h4 := hn Hte.out rfl
    have h5 := hn Htg.out rfl
    have h6 := hn Htp.out rfl
    have h7 := hn Hts.out rfl
    have h8 := hn Htv.out rfl
    unfold checkE
    by_cases hl : Lists d
    · rw [if_pos (HMY.out.2 ⟨HKN.out, h1, HPL.out, h2, h3, h4, h5, h6, h7, h8, hl⟩), decide_eq_true hl]
      rfl
    · rw [if_neg (fun h => hl (HMY.out.1 h).2.2.2.2.2.2.2.2.2.2), decide_eq_false hl]
      rfl)
  obtain ⟨q, hq⟩ : ∃ q, decide (Lists d) = q := ⟨_, rfl⟩
  rw [hq] at HE ⊢
  clear m7 HLL hq
  cases q
  · go_wp2_with fail
    go_ret
    exact ⟨by rw [HE.out]; rfl, M7.out⟩
  · go_wp2_with fail
    go_ret
    exact ⟨by rw [HE.out]; rfl, M7.out⟩
end Go.Proofs.YtekdnljincbghaaDoor
