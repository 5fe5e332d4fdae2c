/- The walk of quorateref17.May. -/
import Derived.Test.YtekdnljincbghaaDoorHMsgR1
import Derived.Deep.CutRange
namespace Go.Proofs.YtekdnljincbghaaDoor
open Go Go.RowKit Go.Lib

theorem rplace_any (n r : Int) (w : World) : Calls Tryd.prog 32 #[.agg #[.int .u64 n, .int .i64 r]] w fun e w' => e = .returned (.bool (decide (Place r))) ∧ Mod [] w w' := by
  have m1 := Mod.alloc [] w (.cells #[.int .u64 n, .int .i64 r] 24)
  have hb := heap_alloc_new w (.cells #[.int .u64 n, .int .i64 r] 24)
  obtain ⟨w1, hw1⟩ : ∃ x, w.alloc (.cells #[.int .u64 n, .int .i64 r] 24) = x := ⟨_, rfl⟩
  rw [hw1] at m1 hb
  have c1 := cell_of_block (i := 1) hb
  have M1 := Lib.hid m1
  clear m1 hb
  have hq : (decide (0 ≤ r) = false ∧ decide (Place r) = false) ∨ (decide (0 ≤ r) = true ∧ decide (r ≤ 6) = false ∧ decide (Place r) = false) ∨ (decide (0 ≤ r) = true ∧ decide (r ≤ 6) = true ∧ decide (Place r) = true) := by
    simp only [decide_eq_true_eq, decide_eq_false_iff_not]
    unfold Place
    omega
  go_enter Tryd.func32, Tryd.ntmps32
  rcases hq with ⟨D1, h⟩ | ⟨D1, D2, h⟩ | ⟨D1, D2, h⟩
  all_goals
    have HH := Lib.hid h
    clear h
    go_wp2_with fail
    go_ret
    exact ⟨by rw [HH.out]; rfl, M1.out⟩
set_option maxRecDepth 100000 in
set_option maxHeartbeats 16000000 in
theorem rmay_any (m : Mm) (w : World) (hs : SeesM w m) (hw : WfM m) : Calls Tryd.prog 17 #[refV m] w fun e w' => e = .returned (.bool (decide (MayM m.d))) ∧ Mod [] w w' := by
  have hdl : m.d.batches.length = m.batches.length ∧ m.d.votes.length = m.votes.length := ⟨by unfold Mm.d; rw [dB_length], by unfold Mm.d; rw [dV_length]⟩
  have hdd : dV m.votes = m.d.votes := rfl
  obtain ⟨d, hd⟩ : ∃ x, m.d = x := ⟨_, rfl⟩
  rw [hd] at hdl hdd ⊢
  have hdh : d.h = m.h ∧ d.snap = m.p.1 := by rw [← hd]; exact ⟨rfl, rfl⟩
  have HSV := Lib.hid hs.votes
  have HWV := Lib.hid (fun v hv => (hw.votes v hv).1)
  have hcb := hw.h
  have hvb := hw.vlen
  have hbb := hw.blen
  obtain ⟨⟨kind, bn, br, first, last, commit⟩, vo, vc, votes, so, sc, batches, pl, po, pc⟩ := m
  unfold WfH at hcb
  dsimp only at hdh hdl hcb hvb hbb hdd HSV HWV
  obtain ⟨hdh, hds⟩ := hdh
  obtain ⟨hdb, hdv⟩ := hdl
  have hMay : MayM d ↔ (Known kind ∧ Place br ∧ ¬ (98 ∉ Fl kind ∧ ¬ (bn = 0 ∧ br = 0)) ∧ ¬ (99 ∉ Fl kind ∧ commit ≠ 0) ∧ ¬ (108 ∉ Fl kind ∧ last ≠ 0) ∧ (102 ∉ Fl kind ↔ first = 0) ∧
    ¬ (112 ∉ Fl kind ∧ 0 < pl.length) ∧ ¬ (115 ∉ Fl kind ∧ 0 < batches.length) ∧ ¬ (118 ∉ Fl kind ∧ 0 < votes.length) ∧ ¬ (108 ∈ Fl kind ∧ last < first) ∧
    batches.length ≤ 16 ∧ ¬ (kind = 7 ∧ batches.length = 0) ∧ votes.length ≤ 256 ∧ ¬ (0 < batches.length ∧ 18446744073709551616 ≤ first + batches.length - 1) ∧ Chain commit (dV votes)) := by
    unfold MayM Lists
    rw [hdh, hds, hdb, hdv, hdd]
    constructor
    · rintro ⟨a1, a2, a3, a4, a5, a6, a7, a8, a9, a10, b1, b2, b3, b4, b5⟩
      exact ⟨a1, a3, a2, a4, a6, a5, a8, a9, a10, a7, b1, b3, b2, b4, b5⟩
    · rintro ⟨a1, a3, a2, a4, a6, a5, a8, a9, a10, a7, b1, b3, b2, b4, b5⟩
      exact ⟨a1, a2, a3, a4, a5, a6, a7, a8, a9, a10, b1, b2, b3, b4, b5⟩
  obtain ⟨vl, hvl⟩ : ∃ n, votes.length = n := ⟨_, rfl⟩
  obtain ⟨bl, hbl⟩ : ∃ n, batches.length = n := ⟨_, rfl⟩
  obtain ⟨sl, hsl⟩ : ∃ n, pl.length = n := ⟨_, rfl⟩
  unfold refV mC
  dsimp only
  rw [hvl, hbl, hsl] at hMay ⊢
  rw [hvl] at hvb
  rw [hbl] at hbb
  have HVL := Lib.hid hvl
  have hFK : (Fl kind == []) = !decide (Known kind) := by
    by_cases h9 : kind < 9
    · have := Fl_known kind h9
      by_cases hk : Known kind
      · rw [decide_eq_true hk]
        cases h : (Fl kind == [])
        · rfl
        · exact absurd hk (this.1 h)
      · rw [decide_eq_false hk, this.2 hk]
        rfl
    · have h0 : Fl kind = [] := by unfold Fl; split <;> first | omega | rfl
      rw [h0, decide_eq_false (by unfold Known; omega)]
      rfl
  have HFI := Lib.hid (fields17_any kind)
  obtain ⟨xb, hxb⟩ : ∃ q, decide ((98 : UInt8) ∈ Fl kind) = q := ⟨_, rfl⟩
  have Hb : Hid (∀ w', Calls Tryd.prog 33 #[.int .i64 (kind : Int), .int .u8 98] w' fun e w'' => e = .returned (.bool xb) ∧ w'' = w') := Lib.hid (fun w' => by rw [← hxb]; exact has17_any kind 98 w')
  obtain ⟨xc, hxc⟩ : ∃ q, decide ((99 : UInt8) ∈ Fl kind) = q := ⟨_, rfl⟩
  have Hc : Hid (∀ w', Calls Tryd.prog 33 #[.int .i64 (kind : Int), .int .u8 99] w' fun e w'' => e = .returned (.bool xc) ∧ w'' = w') := Lib.hid (fun w' => by rw [← hxc]; exact has17_any kind 99 w')
  obtain ⟨xf, hxf⟩ : ∃ q, decide ((102 : UInt8) ∈ Fl kind) = q := ⟨_, rfl⟩
  have Hf : Hid (∀ w', Calls Tryd.prog 33 #[.int .i64 (kind : Int), .int .u8 102] w' fun e w'' => e = .returned (.bool xf) ∧ w'' = w') := Lib.hid (fun w' => by rw [← hxf]; exact has17_any kind 102 w')
  obtain ⟨xl, hxl⟩ : ∃ q, decide ((108 : UInt8) ∈ Fl kind) = q := ⟨_, rfl⟩
  have Hl : Hid (∀ w', Calls Tryd.prog 33 #[.int .i64 (kind : Int), .int .u8 108] w' fun e w'' => e = .returned (.bool xl) ∧ w'' = w') := Lib.hid (fun w' => by rw [← hxl]; exact has17_any kind 108 w')
  obtain ⟨xp, hxp⟩ : ∃ q, decide ((112 : UInt8) ∈ Fl kind) = q := ⟨_, rfl⟩
  have Hp : Hid (∀ w', Calls Tryd.prog 33 #[.int .i64 (kind : Int), .int .u8 112] w' fun e w'' => e = .returned (.bool xp) ∧ w'' = w') := Lib.hid (fun w' => by rw [← hxp]; exact has17_any kind 112 w')
  obtain ⟨xs, hxs⟩ : ∃ q, decide ((115 : UInt8) ∈ Fl kind) = q := ⟨_, rfl⟩
  have Hs : Hid (∀ w', Calls Tryd.prog 33 #[.int .i64 (kind : Int), .int .u8 115] w' fun e w'' => e = .returned (.bool xs) ∧ w'' = w') := Lib.hid (fun w' => by rw [← hxs]; exact has17_any kind 115 w')
  obtain ⟨xv, hxv⟩ : ∃ q, decide ((118 : UInt8) ∈ Fl kind) = q := ⟨_, rfl⟩
  have Hv : Hid (∀ w', Calls Tryd.prog 33 #[.int .i64 (kind : Int), .int .u8 118] w' fun e w'' => e = .returned (.bool xv) ∧ w'' = w') := Lib.hid (fun w' => by rw [← hxv]; exact has17_any kind 118 w')
  obtain ⟨nb, Dnb⟩ : ∃ q, ((bn : Int) != 0) = q := ⟨_, rfl⟩
  have Inb : Hid (nb = true ↔ ¬ bn = 0) := Lib.hid (by rw [← Dnb]; rw [bne_iff_ne]; try omega)
  obtain ⟨nr, Dnr⟩ : ∃ q, (br != 0) = q := ⟨_, rfl⟩
  have Inr : Hid (nr = true ↔ ¬ br = 0) := Lib.hid (by rw [← Dnr]; rw [bne_iff_ne]; try omega)
  obtain ⟨nc, Dnc⟩ : ∃ q, ((commit : Int) != 0) = q := ⟨_, rfl⟩
  have Inc : Hid (nc = true ↔ commit ≠ 0) := Lib.hid (by rw [← Dnc]; rw [bne_iff_ne]; try omega)
  obtain ⟨nl, Dnl⟩ : ∃ q, ((last : Int) != 0) = q := ⟨_, rfl⟩
  have Inl : Hid (nl = true ↔ last ≠ 0) := Lib.hid (by rw [← Dnl]; rw [bne_iff_ne]; try omega)
  obtain ⟨nf, Dnf⟩ : ∃ q, ((first : Int) != 0) = q := ⟨_, rfl⟩
  have Inf : Hid (nf = true ↔ first ≠ 0) := Lib.hid (by rw [← Dnf]; rw [bne_iff_ne]; try omega)
  obtain ⟨zf, Dzf⟩ : ∃ q, ((first : Int) == 0) = q := ⟨_, rfl⟩
  have Izf : Hid (zf = true ↔ first = 0) := Lib.hid (by rw [← Dzf]; rw [beq_iff_eq]; try omega)
  obtain ⟨np, Dnp⟩ : ∃ q, decide (0 < sl) = q := ⟨_, rfl⟩
  have Inp : Hid (np = true ↔ 0 < sl) := Lib.hid (by rw [← Dnp]; rw [decide_eq_true_iff]; try omega)
  obtain ⟨ns, Dns⟩ : ∃ q, decide (0 < bl) = q := ⟨_, rfl⟩
  have Ins : Hid (ns = true ↔ 0 < bl) := Lib.hid (by rw [← Dns]; rw [decide_eq_true_iff]; try omega)
  obtain ⟨nv, Dnv⟩ : ∃ q, decide (0 < vl) = q := ⟨_, rfl⟩
  have Inv : Hid (nv = true ↔ 0 < vl) := Lib.hid (by rw [← Dnv]; rw [decide_eq_true_iff]; try omega)
  obtain ⟨lf, Dlf⟩ : ∃ q, decide (last < first) = q := ⟨_, rfl⟩
  have Ilf : Hid (lf = true ↔ last < first) := Lib.hid (by rw [← Dlf]; rw [decide_eq_true_iff]; try omega)
  obtain ⟨gb, Dgb⟩ : ∃ q, decide ((16 : Int) < (bl : Int)) = q := ⟨_, rfl⟩
  have Igb : Hid (gb = true ↔ 16 < bl) := Lib.hid (by rw [← Dgb]; rw [decide_eq_true_iff]; try omega)
  obtain ⟨k7, Dk7⟩ : ∃ q, ((kind : Int) == 7) = q := ⟨_, rfl⟩
  have Ik7 : Hid (k7 = true ↔ kind = 7) := Lib.hid (by rw [← Dk7]; rw [beq_iff_eq]; try omega)
  obtain ⟨zb, Dzb⟩ : ∃ q, ((bl : Int) == 0) = q := ⟨_, rfl⟩
  have Izb : Hid (zb = true ↔ bl = 0) := Lib.hid (by rw [← Dzb]; rw [beq_iff_eq]; try omega)
  obtain ⟨gv, Dgv⟩ : ∃ q, decide ((256 : Int) < (vl : Int)) = q := ⟨_, rfl⟩
  have Igv : Hid (gv = true ↔ 256 < vl) := Lib.hid (by rw [← Dgv]; rw [decide_eq_true_iff]; try omega)
  have m1 := Mod.alloc [] w (.cells #[.int .i64 (kind : Int), .int .u64 (bn : Int), .int .i64 br, .int .u64 (first : Int), .int .u64 (last : Int), .int .u64 (commit : Int), .slice vo vl vc, .slice so bl sc, .slice po sl pc] 39)
  have hb := heap_alloc_new w (.cells #[.int .i64 (kind : Int), .int .u64 (bn : Int), .int .i64 br, .int .u64 (first : Int), .int .u64 (last : Int), .int .u64 (commit : Int), .slice vo vl vc, .slice so bl sc, .slice po sl pc] 39)
  obtain ⟨w1, hw1⟩ : ∃ x, w.alloc (.cells #[.int .i64 (kind : Int), .int .u64 (bn : Int), .int .i64 br, .int .u64 (first : Int), .int .u64 (last : Int), .int .u64 (commit : Int), .slice vo vl vc, .slice so bl sc, .slice po sl pc] 39) = x := ⟨_, rfl⟩
  rw [hw1] at m1 hb
  have HMY := Lib.hid hMay
  have HFK := Lib.hid hFK
  have HXS : Hid (decide ((98 : UInt8) ∈ Fl kind) = xb ∧ decide ((99 : UInt8) ∈ Fl kind) = xc ∧ decide ((102 : UInt8) ∈ Fl kind) = xf ∧ decide ((108 : UInt8) ∈ Fl kind) = xl ∧ decide ((112 : UInt8) ∈ Fl kind) = xp ∧ decide ((115 : UInt8) ∈ Fl kind) = xs ∧ decide ((118 : UInt8) ∈ Fl kind) = xv) := Lib.hid ⟨hxb, hxc, hxf, hxl, hxp, hxs, hxv⟩
  have HPL := Lib.hid (rplace_any (bn : Int) br)
  obtain ⟨Fs, hFs⟩ : ∃ l, Fl kind = l := ⟨_, rfl⟩
  rw [hFs] at HFI
  have HFS := Lib.hid hFs
  obtain ⟨qk, hqk⟩ : ∃ q, (Fs == []) = q := ⟨_, rfl⟩
  have HQK : Hid (decide (Known kind) = !qk) := Lib.hid (by
    have h := HFK.out
    rw [hFs, hqk] at h
    rw [h]
    simp)
  obtain ⟨qp, hqp⟩ : ∃ q, decide (Place br) = q := ⟨_, rfl⟩
  rw [hqp] at HPL
  have HQP := Lib.hid hqp
  have M1 := Lib.hid m1
  have HB := Lib.hid hb
  have c0 := cell_of_block (i := 0) hb
  have c1 := cell_of_block (i := 1) hb
  have c2 := cell_of_block (i := 2) hb
  have c3 := cell_of_block (i := 3) hb
  have c4 := cell_of_block (i := 4) hb
  have c5 := cell_of_block (i := 5) hb
  have c6 := cell_of_block (i := 6) hb
  have c7 := cell_of_block (i := 7) hb
  have c8 := cell_of_block (i := 8) hb
  simp only [List.getElem?_toArray, List.getElem?_cons_succ, List.getElem?_cons_zero] at c0 c1 c2 c3 c4 c5 c6 c7 c8
  clear hs hw hb m1 hMay hd hdh hds hdb hdv hdd hvl hbl hsl hFK hxb hxc hxf hxl hxp hxs hxv hFs hqp
  go_enter Tryd.func17, Tryd.ntmps17
  cases qk
  case true =>
    have HH : Hid (decide (MayM d) = false) := Lib.hid (decide_eq_false (fun h => of_decide_eq_false HQK.out (HMY.out.1 h).1))
    go_wp2_with (first | (go_at_call 31; refine (HFI.out _).mono ?_; rintro e wq ⟨rfl, rfl⟩) | fail)
    go_ret
    exact ⟨by rw [HH.out]; rfl, M1.out⟩
  go_wp2_with (first | (go_at_call 31; refine (HFI.out _).mono ?_; rintro e wq ⟨rfl, rfl⟩) | fail)
  refine (HPL.out _).mono ?_
  rintro e wp ⟨rfl, mp⟩
  have MP := Lib.hid (M1.out.trans' mp)
  have HBP := Lib.hid (mp.get HB.out List.not_mem_nil)
  have MQ := Lib.hid mp
  cases qp
  case false =>
    have HH : Hid (decide (MayM d) = false) := Lib.hid (decide_eq_false (fun h => of_decide_eq_false HQP.out (HMY.out.1 h).2.1))
    clear mp
    go_wp2_with fail
    go_ret
    exact ⟨by rw [HH.out]; rfl, MP.out⟩
  clear mp c0 c1 c2 c3 c4 c5 c6 c7 c8 HPL HFI
  have c0 := cell_of_block (i := 0) HBP.out
  have c1 := cell_of_block (i := 1) HBP.out
  have c2 := cell_of_block (i := 2) HBP.out
  have c3 := cell_of_block (i := 3) HBP.out
  have c4 := cell_of_block (i := 4) HBP.out
  have c5 := cell_of_block (i := 5) HBP.out
  have c6 := cell_of_block (i := 6) HBP.out
  have c7 := cell_of_block (i := 7) HBP.out
  have c8 := cell_of_block (i := 8) HBP.out
  simp only [List.getElem?_toArray, List.getElem?_cons_succ, List.getElem?_cons_zero] at c0 c1 c2 c3 c4 c5 c6 c7 c8
  obtain ⟨t3, ht3⟩ : ∃ q : Bool, ((((!xb && (nb || nr)) || (!xc && nc)) || (!xl && nl)) || (!xf && nf)) = q := ⟨_, rfl⟩
  have HT3 : Hid (t3 = true ↔ ((((98 ∉ Fl kind ∧ (¬ bn = 0 ∨ ¬ br = 0)) ∨ (99 ∉ Fl kind ∧ commit ≠ 0)) ∨ (108 ∉ Fl kind ∧ last ≠ 0)) ∨ (102 ∉ Fl kind ∧ first ≠ 0))) := Lib.hid (by
    rw [← ht3]
    have hx := HXS.out
    obtain ⟨hxb, hxc, hxf, hxl, hxp, hxs, hxv⟩ := hx
    rw [← hxb, ← hxc, ← hxl, ← hxf]
    simp only [Bool.or_eq_true, Bool.and_eq_true, Bool.not_eq_true', decide_eq_false_iff_not, decide_eq_true_eq, Inb.out, Inr.out, Inc.out, Inl.out, Inf.out, Izf.out, Inp.out, Ins.out, Inv.out, Ilf.out, Igb.out, Ik7.out, Izb.out, Igv.out])
  have HU3 := Lib.hid ht3
  clear ht3
  go_upto_region 3 with (fail)
  go_cut [63] from 15 to 64 (fun s wx => s = .bool t3 ∧ wp = wx)
  case first =>
    have hu := HU3.out
    have HUU := Lib.hid hu
    clear hu HT3 HMY HXS HFS HQK HQP HSV HVL MP MQ HB HBP HFK hcb hvb hbb M1 hw1 hqk Inb Inr Inc Inl Inf Izf Inp Ins Inv Ilf Igb Ik7 Izb Igv Dzf Dnp Dns Dnv Dlf Dgb Dk7 Dzb Dgv Hp Hs Hv c6 c7 c8 
    go_wp2_with fail
    refine (Hb.out _).mono ?_
    rintro e wq ⟨rfl, rfl⟩
    cases xb
    case true =>
      go_wp2_with fail
      refine (Hc.out _).mono ?_
      rintro e wq ⟨rfl, rfl⟩
      cases xc
      case true =>
        go_wp2_with fail
        refine (Hl.out _).mono ?_
        rintro e wq ⟨rfl, rfl⟩
        cases xl
        case true =>
          go_wp2_with fail
          refine (Hf.out _).mono ?_
          rintro e wq ⟨rfl, rfl⟩
          cases xf
          case true =>
            go_wp2_with fail
            go_meet
            exact ⟨by rw [← HUU.out]; rfl, rfl⟩
          case false =>
            cases nf
            case true =>
              go_wp2_with fail
              go_meet
              exact ⟨by rw [← HUU.out]; rfl, rfl⟩
            case false =>
              go_wp2_with fail
              go_meet
              exact ⟨by rw [← HUU.out]; rfl, rfl⟩
        case false =>
          cases nl
          case true =>
            go_wp2_with fail
            go_meet
            exact ⟨by rw [← HUU.out]; rfl, rfl⟩
          case false =>
            go_wp2_with fail
            refine (Hf.out _).mono ?_
            rintro e wq ⟨rfl, rfl⟩
            cases xf
            case true =>
              go_wp2_with fail
              go_meet
              exact ⟨by rw [← HUU.out]; rfl, rfl⟩
            case false =>
              cases nf
              case true =>
                go_wp2_with fail
                go_meet
                exact ⟨by rw [← HUU.out]; rfl, rfl⟩
              case false =>
                go_wp2_with fail
                go_meet
                exact ⟨by rw [← HUU.out]; rfl, rfl⟩
      case false =>
        cases nc
        case true =>
          go_wp2_with fail
          go_meet
          exact ⟨by rw [← HUU.out]; rfl, rfl⟩
        case false =>
          go_wp2_with fail
          refine (Hl.out _).mono ?_
          rintro e wq ⟨rfl, rfl⟩
          cases xl
          case true =>
            go_wp2_with fail
            refine (Hf.out _).mono ?_
            rintro e wq ⟨rfl, rfl⟩
            cases xf
            case true =>
              go_wp2_with fail
              go_meet
              exact ⟨by rw [← HUU.out]; rfl, rfl⟩
            case false =>
              cases nf
              case true =>
                go_wp2_with fail
                go_meet
                exact ⟨by rw [← HUU.out]; rfl, rfl⟩
              case false =>
                go_wp2_with fail
                go_meet
                exact ⟨by rw [← HUU.out]; rfl, rfl⟩
          case false =>
            cases nl
            case true =>
              go_wp2_with fail
              go_meet
              exact ⟨by rw [← HUU.out]; rfl, rfl⟩
            case false =>
              go_wp2_with fail
              refine (Hf.out _).mono ?_
              rintro e wq ⟨rfl, rfl⟩
              cases xf
              case true =>
                go_wp2_with fail
                go_meet
                exact ⟨by rw [← HUU.out]; rfl, rfl⟩
              case false =>
                cases nf
                case true =>
                  go_wp2_with fail
                  go_meet
                  exact ⟨by rw [← HUU.out]; rfl, rfl⟩
                case false =>
                  go_wp2_with fail
                  go_meet
                  exact ⟨by rw [← HUU.out]; rfl, rfl⟩
    case false =>
      cases nb
      case true =>
        go_wp2_with fail
        go_meet
        exact ⟨by rw [← HUU.out]; rfl, rfl⟩
      case false =>
        cases nr
        case true =>
          go_wp2_with fail
          go_meet
          exact ⟨by rw [← HUU.out]; rfl, rfl⟩
        case false =>
          go_wp2_with fail
          refine (Hc.out _).mono ?_
          rintro e wq ⟨rfl, rfl⟩
          cases xc
          case true =>
            go_wp2_with fail
            refine (Hl.out _).mono ?_
            rintro e wq ⟨rfl, rfl⟩
            cases xl
            case true =>
              go_wp2_with fail
              refine (Hf.out _).mono ?_
              rintro e wq ⟨rfl, rfl⟩
              cases xf
              case true =>
                go_wp2_with fail
                go_meet
                exact ⟨by rw [← HUU.out]; rfl, rfl⟩
              case false =>
                cases nf
                case true =>
                  go_wp2_with fail
                  go_meet
                  exact ⟨by rw [← HUU.out]; rfl, rfl⟩
                case false =>
                  go_wp2_with fail
                  go_meet
                  exact ⟨by rw [← HUU.out]; rfl, rfl⟩
            case false =>
              cases nl
              case true =>
                go_wp2_with fail
                go_meet
                exact ⟨by rw [← HUU.out]; rfl, rfl⟩
              case false =>
                go_wp2_with fail
                refine (Hf.out _).mono ?_
                rintro e wq ⟨rfl, rfl⟩
                cases xf
                case true =>
                  go_wp2_with fail
                  go_meet
                  exact ⟨by rw [← HUU.out]; rfl, rfl⟩
                case false =>
                  cases nf
                  case true =>
                    go_wp2_with fail
                    go_meet
                    exact ⟨by rw [← HUU.out]; rfl, rfl⟩
                  case false =>
                    go_wp2_with fail
                    go_meet
                    exact ⟨by rw [← HUU.out]; rfl, rfl⟩
          case false =>
            cases nc
            case true =>
              go_wp2_with fail
              go_meet
              exact ⟨by rw [← HUU.out]; rfl, rfl⟩
            case false =>
              go_wp2_with fail
              refine (Hl.out _).mono ?_
              rintro e wq ⟨rfl, rfl⟩
              cases xl
              case true =>
                go_wp2_with fail
                refine (Hf.out _).mono ?_
                rintro e wq ⟨rfl, rfl⟩
                cases xf
                case true =>
                  go_wp2_with fail
                  go_meet
                  exact ⟨by rw [← HUU.out]; rfl, rfl⟩
                case false =>
                  cases nf
                  case true =>
                    go_wp2_with fail
                    go_meet
                    exact ⟨by rw [← HUU.out]; rfl, rfl⟩
                  case false =>
                    go_wp2_with fail
                    go_meet
                    exact ⟨by rw [← HUU.out]; rfl, rfl⟩
              case false =>
                cases nl
                case true =>
                  go_wp2_with fail
                  go_meet
                  exact ⟨by rw [← HUU.out]; rfl, rfl⟩
                case false =>
                  go_wp2_with fail
                  refine (Hf.out _).mono ?_
                  rintro e wq ⟨rfl, rfl⟩
                  cases xf
                  case true =>
                    go_wp2_with fail
                    go_meet
                    exact ⟨by rw [← HUU.out]; rfl, rfl⟩
                  case false =>
                    cases nf
                    case true =>
                      go_wp2_with fail
                      go_meet
                      exact ⟨by rw [← HUU.out]; rfl, rfl⟩
                    case false =>
                      go_wp2_with fail
                      go_meet
                      exact ⟨by rw [← HUU.out]; rfl, rfl⟩
  case rest =>
  obtain ⟨rfl, rfl⟩ := hcut
  cases t3
  case true =>
    have HH : Hid (decide (MayM d) = false) := Lib.hid (decide_eq_false (fun h => by
      have hq := HT3.out.1 rfl
      have hm := HMY.out.1 h
      rcases hq with ((hq | hq) | hq) | hq
      · exact hm.2.2.1 ⟨hq.1, fun h => hq.2.elim (fun h1 => h1 h.1) (fun h1 => h1 h.2)⟩
      · exact hm.2.2.2.1 hq
      · exact hm.2.2.2.2.1 hq
      · exact hq.2 (hm.2.2.2.2.2.1.1 hq.1)))
    go_wp2_with fail
    go_ret
    exact ⟨by rw [HH.out]; rfl, MP.out⟩
  obtain ⟨t5, ht5⟩ : ∃ q : Bool, (((!xp && np) || (!xs && ns)) || (!xv && nv)) = q := ⟨_, rfl⟩
  have HT5 : Hid (t5 = true ↔ (((112 ∉ Fl kind ∧ 0 < sl) ∨ (115 ∉ Fl kind ∧ 0 < bl)) ∨ (118 ∉ Fl kind ∧ 0 < vl))) := Lib.hid (by
    rw [← ht5]
    have hx := HXS.out
    obtain ⟨hxb, hxc, hxf, hxl, hxp, hxs, hxv⟩ := hx
    rw [← hxp, ← hxs, ← hxv]
    simp only [Bool.or_eq_true, Bool.and_eq_true, Bool.not_eq_true', decide_eq_false_iff_not, decide_eq_true_eq, Inb.out, Inr.out, Inc.out, Inl.out, Inf.out, Izf.out, Inp.out, Ins.out, Inv.out, Ilf.out, Igb.out, Ik7.out, Izb.out, Igv.out])
  have HU5 := Lib.hid ht5
  clear ht5
  go_upto_region 5 with (fail)
  go_cut [97] from 64 to 98 (fun s wx => s = .bool t5 ∧ wp = wx)
  case first =>
    have hu := HU5.out
    have HUU := Lib.hid hu
    clear hu HT5 HMY HXS HFS HQK HQP HSV HVL MP MQ HB HBP HFK hcb hvb hbb M1 hw1 hqk Inb Inr Inc Inl Inf Izf Inp Ins Inv Ilf Igb Ik7 Izb Igv Dnb Dnr Dnc Dnl Dnf Dzf Dlf Dgb Dk7 Dzb Dgv Hb Hc Hf Hl c1 c2 c3 c4 c5 HT3
    go_wp2_with fail
    refine (Hp.out _).mono ?_
    rintro e wq ⟨rfl, rfl⟩
    cases xp
    case true =>
      go_wp2_with fail
      refine (Hs.out _).mono ?_
      rintro e wq ⟨rfl, rfl⟩
      cases xs
      case true =>
        go_wp2_with fail
        refine (Hv.out _).mono ?_
        rintro e wq ⟨rfl, rfl⟩
        cases xv
        case true =>
          go_wp2_with fail
          go_meet
          exact ⟨by rw [← HUU.out]; rfl, rfl⟩
        case false =>
          cases nv
          case true =>
            go_wp2_with fail
            go_meet
            exact ⟨by rw [← HUU.out]; rfl, rfl⟩
          case false =>
            go_wp2_with fail
            go_meet
            exact ⟨by rw [← HUU.out]; rfl, rfl⟩
      case false =>
        cases ns
        case true =>
          go_wp2_with fail
          go_meet
          exact ⟨by rw [← HUU.out]; rfl, rfl⟩
        case false =>
          go_wp2_with fail
          refine (Hv.out _).mono ?_
          rintro e wq ⟨rfl, rfl⟩
          cases xv
          case true =>
            go_wp2_with fail
            go_meet
            exact ⟨by rw [← HUU.out]; rfl, rfl⟩
          case false =>
            cases nv
            case true =>
              go_wp2_with fail
              go_meet
              exact ⟨by rw [← HUU.out]; rfl, rfl⟩
            case false =>
              go_wp2_with fail
              go_meet
              exact ⟨by rw [← HUU.out]; rfl, rfl⟩
    case false =>
      cases np
      case true =>
        go_wp2_with fail
        go_meet
        exact ⟨by rw [← HUU.out]; rfl, rfl⟩
      case false =>
        go_wp2_with fail
        refine (Hs.out _).mono ?_
        rintro e wq ⟨rfl, rfl⟩
        cases xs
        case true =>
          go_wp2_with fail
          refine (Hv.out _).mono ?_
          rintro e wq ⟨rfl, rfl⟩
          cases xv
          case true =>
            go_wp2_with fail
            go_meet
            exact ⟨by rw [← HUU.out]; rfl, rfl⟩
          case false =>
            cases nv
            case true =>
              go_wp2_with fail
              go_meet
              exact ⟨by rw [← HUU.out]; rfl, rfl⟩
            case false =>
              go_wp2_with fail
              go_meet
              exact ⟨by rw [← HUU.out]; rfl, rfl⟩
        case false =>
          cases ns
          case true =>
            go_wp2_with fail
            go_meet
            exact ⟨by rw [← HUU.out]; rfl, rfl⟩
          case false =>
            go_wp2_with fail
            refine (Hv.out _).mono ?_
            rintro e wq ⟨rfl, rfl⟩
            cases xv
            case true =>
              go_wp2_with fail
              go_meet
              exact ⟨by rw [← HUU.out]; rfl, rfl⟩
            case false =>
              cases nv
              case true =>
                go_wp2_with fail
                go_meet
                exact ⟨by rw [← HUU.out]; rfl, rfl⟩
              case false =>
                go_wp2_with fail
                go_meet
                exact ⟨by rw [← HUU.out]; rfl, rfl⟩
  case rest =>
  obtain ⟨rfl, rfl⟩ := hcut
  cases t5
  case true =>
    have HH : Hid (decide (MayM d) = false) := Lib.hid (decide_eq_false (fun h => by
      have hq := HT5.out.1 rfl
      have hm := HMY.out.1 h
      rcases hq with (hq | hq) | hq
      · exact hm.2.2.2.2.2.2.1 hq
      · exact hm.2.2.2.2.2.2.2.1 hq
      · exact hm.2.2.2.2.2.2.2.2.1 hq))
    go_wp2_with fail
    go_ret
    exact ⟨by rw [HH.out]; rfl, MP.out⟩
  obtain ⟨t7, ht7⟩ : ∃ q : Bool, (((((xf && zf) || (xl && lf)) || gb) || (k7 && zb)) || gv) = q := ⟨_, rfl⟩
  have HT7 : Hid (t7 = true ↔ (((((102 ∈ Fl kind ∧ first = 0) ∨ (108 ∈ Fl kind ∧ last < first)) ∨ 16 < bl) ∨ (kind = 7 ∧ bl = 0)) ∨ 256 < vl)) := Lib.hid (by
    rw [← ht7]
    have hx := HXS.out
    obtain ⟨hxb, hxc, hxf, hxl, hxp, hxs, hxv⟩ := hx
    rw [← hxf, ← hxl]
    simp only [Bool.or_eq_true, Bool.and_eq_true, Bool.not_eq_true', decide_eq_false_iff_not, decide_eq_true_eq, Inb.out, Inr.out, Inc.out, Inl.out, Inf.out, Izf.out, Inp.out, Ins.out, Inv.out, Ilf.out, Igb.out, Ik7.out, Izb.out, Igv.out])
  have HU7 := Lib.hid ht7
  clear ht7
  go_upto_region 7 with (fail)
  go_cut [140] from 98 to 141 (fun s wx => s = .bool t7 ∧ wp = wx)
  case first =>
    have hu := HU7.out
    have HUU := Lib.hid hu
    clear hu HT7 HMY HXS HFS HQK HQP HSV HVL MP MQ HB HBP HFK hcb hvb hbb M1 hw1 hqk Inb Inr Inc Inl Inf Izf Inp Ins Inv Ilf Igb Ik7 Izb Igv Dnb Dnr Dnc Dnl Dnf Dnp Dns Dnv Hb Hc Hp Hs Hv c1 c2 c5 c8 HT3 HT5
    go_wp2_with fail
    refine (Hf.out _).mono ?_
    rintro e wq ⟨rfl, rfl⟩
    cases xf
    case false =>
      go_wp2_with fail
      refine (Hl.out _).mono ?_
      rintro e wq ⟨rfl, rfl⟩
      cases xl
      case false =>
        cases gb
        case true =>
          go_wp2_with fail
          go_meet
          exact ⟨by rw [← HUU.out]; rfl, rfl⟩
        case false =>
          cases k7
          case false =>
            cases gv
            case true =>
              go_wp2_with fail
              go_meet
              exact ⟨by rw [← HUU.out]; rfl, rfl⟩
            case false =>
              go_wp2_with fail
              go_meet
              exact ⟨by rw [← HUU.out]; rfl, rfl⟩
          case true =>
            cases zb
            case true =>
              go_wp2_with fail
              go_meet
              exact ⟨by rw [← HUU.out]; rfl, rfl⟩
            case false =>
              cases gv
              case true =>
                go_wp2_with fail
                go_meet
                exact ⟨by rw [← HUU.out]; rfl, rfl⟩
              case false =>
                go_wp2_with fail
                go_meet
                exact ⟨by rw [← HUU.out]; rfl, rfl⟩
      case true =>
        cases lf
        case true =>
          go_wp2_with fail
          go_meet
          exact ⟨by rw [← HUU.out]; rfl, rfl⟩
        case false =>
          cases gb
          case true =>
            go_wp2_with fail
            go_meet
            exact ⟨by rw [← HUU.out]; rfl, rfl⟩
          case false =>
            cases k7
            case false =>
              cases gv
              case true =>
                go_wp2_with fail
                go_meet
                exact ⟨by rw [← HUU.out]; rfl, rfl⟩
              case false =>
                go_wp2_with fail
                go_meet
                exact ⟨by rw [← HUU.out]; rfl, rfl⟩
            case true =>
              cases zb
              case true =>
                go_wp2_with fail
                go_meet
                exact ⟨by rw [← HUU.out]; rfl, rfl⟩
              case false =>
                cases gv
                case true =>
                  go_wp2_with fail
                  go_meet
                  exact ⟨by rw [← HUU.out]; rfl, rfl⟩
                case false =>
                  go_wp2_with fail
                  go_meet
                  exact ⟨by rw [← HUU.out]; rfl, rfl⟩
    case true =>
      cases zf
      case true =>
        go_wp2_with fail
        go_meet
        exact ⟨by rw [← HUU.out]; rfl, rfl⟩
      case false =>
        go_wp2_with fail
        refine (Hl.out _).mono ?_
        rintro e wq ⟨rfl, rfl⟩
        cases xl
        case false =>
          cases gb
          case true =>
            go_wp2_with fail
            go_meet
            exact ⟨by rw [← HUU.out]; rfl, rfl⟩
          case false =>
            cases k7
            case false =>
              cases gv
              case true =>
                go_wp2_with fail
                go_meet
                exact ⟨by rw [← HUU.out]; rfl, rfl⟩
              case false =>
                go_wp2_with fail
                go_meet
                exact ⟨by rw [← HUU.out]; rfl, rfl⟩
            case true =>
              cases zb
              case true =>
                go_wp2_with fail
                go_meet
                exact ⟨by rw [← HUU.out]; rfl, rfl⟩
              case false =>
                cases gv
                case true =>
                  go_wp2_with fail
                  go_meet
                  exact ⟨by rw [← HUU.out]; rfl, rfl⟩
                case false =>
                  go_wp2_with fail
                  go_meet
                  exact ⟨by rw [← HUU.out]; rfl, rfl⟩
        case true =>
          cases lf
          case true =>
            go_wp2_with fail
            go_meet
            exact ⟨by rw [← HUU.out]; rfl, rfl⟩
          case false =>
            cases gb
            case true =>
              go_wp2_with fail
              go_meet
              exact ⟨by rw [← HUU.out]; rfl, rfl⟩
            case false =>
              cases k7
              case false =>
                cases gv
                case true =>
                  go_wp2_with fail
                  go_meet
                  exact ⟨by rw [← HUU.out]; rfl, rfl⟩
                case false =>
                  go_wp2_with fail
                  go_meet
                  exact ⟨by rw [← HUU.out]; rfl, rfl⟩
              case true =>
                cases zb
                case true =>
                  go_wp2_with fail
                  go_meet
                  exact ⟨by rw [← HUU.out]; rfl, rfl⟩
                case false =>
                  cases gv
                  case true =>
                    go_wp2_with fail
                    go_meet
                    exact ⟨by rw [← HUU.out]; rfl, rfl⟩
                  case false =>
                    go_wp2_with fail
                    go_meet
                    exact ⟨by rw [← HUU.out]; rfl, rfl⟩
  case rest =>
  obtain ⟨rfl, rfl⟩ := hcut
  cases t7
  case true =>
    have HH : Hid (decide (MayM d) = false) := Lib.hid (decide_eq_false (fun h => by
      have hq := HT7.out.1 rfl
      have hm := HMY.out.1 h
      rcases hq with (((hq | hq) | hq) | hq) | hq
      · exact hm.2.2.2.2.2.1.2 hq.2 hq.1
      · exact hm.2.2.2.2.2.2.2.2.2.1 hq
      · have := hm.2.2.2.2.2.2.2.2.2.2.1
        omega
      · exact hm.2.2.2.2.2.2.2.2.2.2.2.1 hq
      · have := hm.2.2.2.2.2.2.2.2.2.2.2.2.1
        omega))
    go_wp2_with fail
    go_ret
    exact ⟨by rw [HH.out]; rfl, MP.out⟩
  have hn7 : ¬ 16 < bl := fun h => by
    have h2 : (((((102 ∈ Fl kind ∧ first = 0) ∨ (108 ∈ Fl kind ∧ last < first)) ∨ 16 < bl) ∨ (kind = 7 ∧ bl = 0)) ∨ 256 < vl) := Or.inl (Or.inl (Or.inr h))
    exact absurd (HT7.out.2 h2) (by decide)
  obtain ⟨t9, ht9⟩ : ∃ q : Bool, decide (1 < bl ∧ 18446744073709551615 - (bl - 1) < first) = q := ⟨_, rfl⟩
  have HT9 := Lib.hid ht9
  clear ht9
  go_upto_region 9 with (fail)
  go_cut [155] from 141 to 156 (fun s wx => s = .bool t9 ∧ wp = wx)
  case first =>
    by_cases h1 : 1 < bl
    · have D1 : decide ((1 : Int) < (bl : Int)) = true := decide_eq_true (by omega)
      have e1 : IntKind.i64.wrap ((bl : Int) - 1) = (bl : Int) - 1 := IntWalk.i64_in _ (by omega)
      have e2 : IntKind.u64.wrap ((bl : Int) - 1) = (bl : Int) - 1 := IntWalk.u64_in _ (by omega)
      have e3 : IntKind.u64.wrap (18446744073709551615 - ((bl : Int) - 1)) = 18446744073709551615 - ((bl : Int) - 1) := IntWalk.u64_in _ (by omega)
      have D2 : decide (18446744073709551615 - ((bl : Int) - 1) < (first : Int)) = t9 := by
        rw [← HT9.out]
        exact decide_eq_decide.2 (by omega)
      clear h1
      go_wp2_with fail
      go_meet
      exact ⟨rfl, rfl⟩
    · have D1 : decide ((1 : Int) < (bl : Int)) = false := decide_eq_false (by omega)
      obtain rfl : t9 = false := by rw [← HT9.out]; exact decide_eq_false (fun h => h1 h.1)
      clear h1
      go_wp2_with fail
      go_meet
      exact ⟨rfl, rfl⟩
  case rest =>
  obtain ⟨rfl, rfl⟩ := hcut
  cases t9
  case true =>
    have HH : Hid (decide (MayM d) = false) := Lib.hid (decide_eq_false (fun h => by
      have hq := of_decide_eq_true HT9.out
      have hm := (HMY.out.1 h).2.2.2.2.2.2.2.2.2.2.2.2.2.1
      exact hm ⟨by omega, by omega⟩))
    go_wp2_with fail
    go_ret
    exact ⟨by rw [HH.out]; rfl, MP.out⟩
  have HB1 : Hid (∀ b : Bool, (Chain commit (dV votes) ↔ b = true) → decide (MayM d) = b) := Lib.hid (fun b hb => by
    cases b
    · exact decide_eq_false (fun h => by have := hb.1 (HMY.out.1 h).2.2.2.2.2.2.2.2.2.2.2.2.2.2; exact absurd this (by decide))
    · refine decide_eq_true (HMY.out.2 ?_)
      have n3 : ¬ _ := fun h => absurd (HT3.out.2 h) (by decide)
      have n5 : ¬ _ := fun h => absurd (HT5.out.2 h) (by decide)
      have n7 : ¬ _ := fun h => absurd (HT7.out.2 h) (by decide)
      have n9 := of_decide_eq_false HT9.out
      have p7 : 102 ∈ Fl kind → first ≠ 0 := fun h h2 => n7 (Or.inl (Or.inl (Or.inl (Or.inl ⟨h, h2⟩))))
      refine ⟨of_decide_eq_true HQK.out, of_decide_eq_true HQP.out, fun h => n3 (Or.inl (Or.inl (Or.inl ⟨h.1, ?_⟩))), fun h => n3 (Or.inl (Or.inl (Or.inr h))), fun h => n3 (Or.inl (Or.inr h)), ⟨fun h => ?_, fun h h2 => p7 h2 h⟩, fun h => n5 (Or.inl (Or.inl h)), fun h => n5 (Or.inl (Or.inr h)), fun h => n5 (Or.inr h),
        fun h => n7 (Or.inl (Or.inl (Or.inl (Or.inr h)))), by omega, fun h => n7 (Or.inl (Or.inr h)), ?_, fun h => ?_, hb.2 rfl⟩
      · by_cases h0 : bn = 0
        · exact Or.inr (fun h1 => h.2 ⟨h0, h1⟩)
        · exact Or.inl h0
      · by_cases h0 : first = 0
        · exact h0
        · exact absurd (Or.inr ⟨h, h0⟩) n3
      · by_cases h0 : 256 < vl
        · exact absurd (Or.inr h0) n7
        · omega
      · exact n9 ⟨by omega, by omega⟩)
  clear HMY HT3 HT5 HT7 HT9 HU3 HU5 HU7 HXS HFS HQK HQP HFK hn7 hqk c0 c1 c2 c3 c4 c5 c6 c7 c8 Inb Inr Inc Inl Inf Izf Inp Ins Inv Ilf Igb Ik7 Izb Igv Dnb Dnr Dnc Dnl Dnf Dzf Dnp Dns Dnv Dlf Dgb Dk7 Dzb Dgv Hb Hc Hf Hl Hp Hs Hv
  replace HSV := Lib.hid (HSV.out.mod0 MP.out)
  have HC5 := Lib.hid (cell_of_block (i := 5) HBP.out)
  go_wp2_with fail
  go_loopw [3] (fun s3 wr => ∃ (k a : Nat), k ≤ vl ∧ s3 = .int .i64 (k : Int) ∧ a < 18446744073709551616 ∧ ((k = 0 ∧ a = commit) ∨ (∃ h : k - 1 < votes.length, 0 < k ∧ votes[k - 1].1.slot = a)) ∧ (Chain commit (dV votes) ↔ Chain a ((dV votes).drop k)) ∧ Mod [] wp wr) (fun s3 _ => vl - (intOf s3).toNat)
  case atStart => exact ⟨0, commit, Nat.zero_le _, rfl, by omega, Or.inl ⟨rfl, rfl⟩, by rw [List.drop_zero], Mod.refl _ _⟩
  case round =>
    obtain ⟨k, a, hk, rfl, hal, hor, hch, hm⟩ := hrel
    rename World => wr
    have HCH := Lib.hid hch
    have HM := Lib.hid hm
    have MW := Lib.hid (MP.out.trans' hm)
    have HBr := Lib.hid (hm.get HBP.out List.not_mem_nil)
    have HOR := Lib.hid hor
    clear hch hm hor
    have c6 := cell_of_block (i := 6) HBr.out
    simp only [List.getElem?_toArray, List.getElem?_cons_succ, List.getElem?_cons_zero] at c6
    by_cases hkv : k < vl
    case neg =>
      have hke : k = vl := by omega
      have HH := Lib.hid (HB1.out true ⟨fun _ => rfl, fun _ => HCH.out.2 (by rw [List.drop_of_length_le (by rw [dV_length, HVL.out]; omega)]; trivial)⟩)
      subst hke
      go_wp2_with fail
      go_ret
      exact ⟨by rw [HH.out]; rfl, MW.out⟩
    have hkl : k < votes.length := by rw [HVL.out]; exact hkv
    have hkv2 : (k : Int) < (vl : Int) := by omega
    have c5 := cell_of_block (i := 5) HBr.out
    simp only [List.getElem?_toArray, List.getElem?_cons_succ, List.getElem?_cons_zero] at c5
    obtain ⟨b, off, rfl, hc⟩ := HSV.out.vote hkl
    have hdr := dV_drop hkl
    obtain ⟨⟨⟨vs, n1, r1⟩, x, xo, xc⟩, hx⟩ : ∃ x, votes[k] = x := ⟨_, rfl⟩
    rw [hx] at hc hdr
    have hslt : vs < 18446744073709551616 := by
      have := (HWV.out _ (List.getElem_mem hkl)).1
      rw [hx] at this
      exact this
    dsimp only at hc hdr
    obtain ⟨p0, p1, p2, -, -⟩ := hc wr HM.out
    rw [hdr] at HCH
    have HQ2 : Hid (∀ b : Bool, (a < vs ∧ Place r1 ∧ Chain vs ((dV votes).drop (k + 1)) ↔ b = true) → b = false → decide (MayM d) = false) := Lib.hid (fun b h hb => HB1.out false ⟨fun h2 => by have := h.1 (HCH.out.1 h2); rw [hb] at this; exact absurd this (by decide), fun h => absurd h (by decide)⟩)
    have HP := Lib.hid (rplace_any (n1 : Int) r1 wr)
    obtain ⟨q, hq⟩ : ∃ q, decide (Place r1) = q := ⟨_, rfl⟩
    rw [hq] at HP
    have HQP2 := Lib.hid hq
    have HX : Hid (votes[k] = (⟨vs, n1, r1⟩, x, xo, xc)) := Lib.hid hx
    clear hc hdr hx hq
    rcases HOR.out with ⟨rfl, rfl⟩ | ⟨hk1, hk0, hks⟩
    case inl =>
      simp only [Nat.zero_mul, Nat.add_zero] at p0 p1 p2
      by_cases hsl : a < vs
      case neg =>
        have D : decide (vs ≤ a) = true := decide_eq_true (by omega)
        have HH := Lib.hid (HQ2.out false ⟨fun h => absurd h.1 hsl, fun h => absurd h (by decide)⟩ rfl)
        go_wp2_with fail
        go_ret
        exact ⟨by rw [HH.out]; rfl, MW.out⟩
      have D : decide (vs ≤ a) = false := decide_eq_false (by omega)
      go_wp2_with fail
      refine HP.out.mono ?_
      rintro e w3 ⟨rfl, m3⟩
      have MW3 := Lib.hid (MW.out.trans' m3)
      have HM3 := Lib.hid (HM.out.trans' m3)
      clear m3
      cases q
      case false =>
        have HH := Lib.hid (HQ2.out false ⟨fun h => absurd h.2.1 (of_decide_eq_false HQP2.out), fun h => absurd h (by decide)⟩ rfl)
        go_wp2_with fail
        go_ret
        exact ⟨by rw [HH.out]; rfl, MW3.out⟩
      go_wp2_with fail
      go_roundw
      case rel => exact ⟨0 + 1, vs, by omega, by go_num, hslt, Or.inr ⟨by simpa using hkl, by omega, by simp only [Nat.add_sub_cancel]; rw [HX.out]⟩, ⟨fun h => (HCH.out.1 h).2.2, fun h => HCH.out.2 ⟨hsl, of_decide_eq_true HQP2.out, h⟩⟩, HM3.out⟩
      case measure => simp [intOf]; omega
    case inr =>
      obtain ⟨b', off', e, hc'⟩ := HSV.out.vote hk1
      cases e
      have q0 := (hc' wr HM.out).1
      rw [hks] at q0
      have e1 : IntKind.i64.wrap ((k : Int) - 1) = (k : Int) - 1 := IntWalk.i64_in _ (by omega)
      have i3 : ((k : Int) - 1).toNat = k - 1 := by omega
      have i1 : (0 : Int) ≤ (k : Int) - 1 := by omega
      have i2 : (k : Int) - 1 < (vl : Int) := by omega
      have i0 : (1 : Int) ≤ (k : Int) := by omega
      have D0 : decide (0 < k) = true := decide_eq_true hk0
      clear hc' hks
      by_cases hsl : a < vs
      case neg =>
        have D : decide (vs ≤ a) = true := decide_eq_true (by omega)
        have HH := Lib.hid (HQ2.out false ⟨fun h => absurd h.1 hsl, fun h => absurd h (by decide)⟩ rfl)
        go_wp2_with fail
        go_ret
        exact ⟨by rw [HH.out]; rfl, MW.out⟩
      have D : decide (vs ≤ a) = false := decide_eq_false (by omega)
      go_wp2_with fail
      refine HP.out.mono ?_
      rintro e w3 ⟨rfl, m3⟩
      have MW3 := Lib.hid (MW.out.trans' m3)
      have HM3 := Lib.hid (HM.out.trans' m3)
      clear m3
      cases q
      case false =>
        have HH := Lib.hid (HQ2.out false ⟨fun h => absurd h.2.1 (of_decide_eq_false HQP2.out), fun h => absurd h (by decide)⟩ rfl)
        go_wp2_with fail
        go_ret
        exact ⟨by rw [HH.out]; rfl, MW3.out⟩
      go_wp2_with fail
      go_roundw
      case rel => exact ⟨k + 1, vs, by omega, by go_num, hslt, Or.inr ⟨by simpa using hkl, by omega, by simp only [Nat.add_sub_cancel]; rw [HX.out]⟩, ⟨fun h => (HCH.out.1 h).2.2, fun h => HCH.out.2 ⟨hsl, of_decide_eq_true HQP2.out, h⟩⟩, HM3.out⟩
      case measure => simp [intOf]; omega
end Go.Proofs.YtekdnljincbghaaDoor
