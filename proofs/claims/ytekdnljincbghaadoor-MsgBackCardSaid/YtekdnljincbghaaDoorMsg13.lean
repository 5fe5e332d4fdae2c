/- The walk of msg.Same. -/
import Derived.Test.YtekdnljincbghaaDoorMsg12
namespace Go.Proofs.YtekdnljincbghaaDoor
open Go Go.RowKit Go.Lib

theorem md_eq (a b : Md) : a = b ↔ (a.votes = b.votes ∧ a.h.kind = b.h.kind ∧ a.h.bn = b.h.bn ∧ a.h.br = b.h.br ∧ a.h.first = b.h.first ∧ a.h.last = b.h.last ∧ a.h.commit = b.h.commit ∧ a.batches = b.batches ∧ a.snap = b.snap) := by
  obtain ⟨⟨x1, x2, x3, x4, x5, x6⟩, x7, x8, x9⟩ := a
  obtain ⟨⟨y1, y2, y3, y4, y5, y6⟩, y7, y8, y9⟩ := b
  simp only [Md.mk.injEq, Hd.mk.injEq]
  constructor
  · rintro ⟨⟨a1, a2, a3, a4, a5, a6⟩, a7, a8, a9⟩; exact ⟨a7, a1, a2, a3, a4, a5, a6, a8, a9⟩
  · rintro ⟨a7, a1, a2, a3, a4, a5, a6, a8, a9⟩; exact ⟨⟨a1, a2, a3, a4, a5, a6⟩, a7, a8, a9⟩
theorem no_of {q : Bool} {p : Prop} (h : q = true ↔ p) (hn : ¬ p) : q = false := by
  cases q
  · rfl
  · exact absurd (h.1 rfl) hn
set_option maxRecDepth 100000 in
set_option maxHeartbeats 8000000 in
theorem msame_any (a b : Mm) (w : World) (ha : SeesM w a) (hb : SeesM w b) (wa : WfM a) (wb : WfM b) : Calls Tryd.prog 22 #[msgV a, msgV b] w fun e w' => e = .returned (.bool (decide (a.d = b.d))) ∧ Mod [] w w' := by
  have HSA := Lib.hid ha
  have HSB := Lib.hid hb
  have l1 := wa.vlen
  have l2 := wa.blen
  have l3 := wb.vlen
  have l4 := wb.blen
  have hiff := md_eq a.d b.d
  obtain ⟨q, hq⟩ : ∃ q, decide (a.d = b.d) = q := ⟨_, rfl⟩
  rw [hq]
  rw [← decide_eq_true_iff (p := a.d = b.d), hq] at hiff
  obtain ⟨⟨kind, bn, br, first, last, commit⟩, vo, vc, votes, so, sc, batches, pl, po, pc⟩ := a
  obtain ⟨⟨kind', bn', br', first', last', commit'⟩, vo', vc', votes', so', sc', batches', pl', po', pc'⟩ := b
  unfold Mm.d at hiff
  dsimp only at hiff l1 l2 l3 l4
  have HQ := Lib.hid hiff
  clear ha hb wa wb hq hiff
  unfold msgV mC
  dsimp only
  have ma := Mod.alloc [] w (.cells #[.int .u8 (kind : Int), .int .u64 (bn : Int), .int .i64 br, .int .u64 (first : Int), .int .u64 (last : Int), .int .u64 (commit : Int), .slice vo votes.length vc, .slice so batches.length sc, .slice po pl.length pc] 29)
  have hba := heap_alloc_new w (.cells #[.int .u8 (kind : Int), .int .u64 (bn : Int), .int .i64 br, .int .u64 (first : Int), .int .u64 (last : Int), .int .u64 (commit : Int), .slice vo votes.length vc, .slice so batches.length sc, .slice po pl.length pc] 29)
  obtain ⟨w1, hw1⟩ : ∃ x, w.alloc (.cells #[.int .u8 (kind : Int), .int .u64 (bn : Int), .int .i64 br, .int .u64 (first : Int), .int .u64 (last : Int), .int .u64 (commit : Int), .slice vo votes.length vc, .slice so batches.length sc, .slice po pl.length pc] 29) = x := ⟨_, rfl⟩
  rw [hw1] at ma hba
  have mb := Mod.alloc [] w1 (.cells #[.int .u8 (kind' : Int), .int .u64 (bn' : Int), .int .i64 br', .int .u64 (first' : Int), .int .u64 (last' : Int), .int .u64 (commit' : Int), .slice vo' votes'.length vc', .slice so' batches'.length sc', .slice po' pl'.length pc'] 29)
  have hbb := heap_alloc_new w1 (.cells #[.int .u8 (kind' : Int), .int .u64 (bn' : Int), .int .i64 br', .int .u64 (first' : Int), .int .u64 (last' : Int), .int .u64 (commit' : Int), .slice vo' votes'.length vc', .slice so' batches'.length sc', .slice po' pl'.length pc'] 29)
  obtain ⟨w2, hw2⟩ : ∃ x, w1.alloc (.cells #[.int .u8 (kind' : Int), .int .u64 (bn' : Int), .int .i64 br', .int .u64 (first' : Int), .int .u64 (last' : Int), .int .u64 (commit' : Int), .slice vo' votes'.length vc', .slice so' batches'.length sc', .slice po' pl'.length pc'] 29) = x := ⟨_, rfl⟩
  rw [hw2] at mb hbb
  have M2 := Lib.hid (ma.trans' mb)
  have HBA := Lib.hid (mb.get hba List.not_mem_nil)
  have HBB := Lib.hid hbb
  have a6 := cell_of_block (i := 6) HBA.out
  have b6 := cell_of_block (i := 6) HBB.out
  simp only [List.getElem?_toArray, List.getElem?_cons_succ, List.getElem?_cons_zero] at a6 b6
  have HC := Lib.hid (eqVs_any vo vo' votes.length votes'.length vc vc' votes votes' w2 rfl rfl l1 l3 (HSA.out.votes.mod0 M2.out) (HSB.out.votes.mod0 M2.out))
  obtain ⟨p, hp⟩ : ∃ p, decide (dV votes = dV votes') = p := ⟨_, rfl⟩
  rw [hp] at HC
  have HP := Lib.hid hp
  clear ma mb hba hbb hp
  go_enter Tryd.func22, Tryd.ntmps22
  go_wp2_with fail
  refine HC.out.mono ?_
  rintro e w3 ⟨rfl, m3⟩
  have M3 := Lib.hid (M2.out.trans' m3)
  have HBA3 := Lib.hid (m3.get HBA.out List.not_mem_nil)
  have HBB3 := Lib.hid (m3.get HBB.out List.not_mem_nil)
  clear m3 HC M2 HBA HBB a6 b6 hw1 hw2
  have a0 := cell_of_block (i := 0) HBA3.out
  have a1 := cell_of_block (i := 1) HBA3.out
  have a2 := cell_of_block (i := 2) HBA3.out
  have a3 := cell_of_block (i := 3) HBA3.out
  have a4 := cell_of_block (i := 4) HBA3.out
  have a5 := cell_of_block (i := 5) HBA3.out
  have a6 := cell_of_block (i := 6) HBA3.out
  have a7 := cell_of_block (i := 7) HBA3.out
  have a8 := cell_of_block (i := 8) HBA3.out
  simp only [List.getElem?_toArray, List.getElem?_cons_succ, List.getElem?_cons_zero] at a0 a1 a2 a3 a4 a5 a6 a7 a8
  have b0 := cell_of_block (i := 0) HBB3.out
  have b1 := cell_of_block (i := 1) HBB3.out
  have b2 := cell_of_block (i := 2) HBB3.out
  have b3 := cell_of_block (i := 3) HBB3.out
  have b4 := cell_of_block (i := 4) HBB3.out
  have b5 := cell_of_block (i := 5) HBB3.out
  have b6 := cell_of_block (i := 6) HBB3.out
  have b7 := cell_of_block (i := 7) HBB3.out
  have b8 := cell_of_block (i := 8) HBB3.out
  simp only [List.getElem?_toArray, List.getElem?_cons_succ, List.getElem?_cons_zero] at b0 b1 b2 b3 b4 b5 b6 b7 b8
  cases p
  case false =>
    have HH : Hid (q = false) := Lib.hid (no_of HQ.out (fun h => of_decide_eq_false HP.out h.1))
    clear HQ
    go_wp2_with fail
    go_ret
    exact ⟨by rw [HH.out]; rfl, M3.out⟩
  by_cases e1 : kind = kind'
  case neg =>
    have D : ((kind : Int) == (kind' : Int)) = false := by simp; omega
    have HH : Hid (q = false) := Lib.hid (no_of HQ.out (fun h => e1 h.2.1))
    clear e1 HQ
    go_wp2_with fail
    go_ret
    exact ⟨by rw [HH.out]; rfl, M3.out⟩
  subst e1
  by_cases e1 : bn = bn'
  case neg =>
    have D : ((bn : Int) == (bn' : Int)) = false := by simp; omega
    have D2 : ((bn : Int) = (bn' : Int)) = False := by simp; omega
    have D3 : (bn = bn') = False := by simp; omega
    have HH : Hid (q = false) := Lib.hid (no_of HQ.out (fun h => e1 h.2.2.1))
    clear e1 HQ
    go_wp2_with fail
    go_ret
    exact ⟨by rw [HH.out]; rfl, M3.out⟩
  subst e1
  by_cases e1 : br = br'
  case neg =>
    have D : (br == br') = false := by simp; omega
    have D3 : (br = br') = False := by simp; omega
    have HH : Hid (q = false) := Lib.hid (no_of HQ.out (fun h => e1 h.2.2.2.1))
    clear e1 HQ
    go_wp2_with fail
    go_ret
    exact ⟨by rw [HH.out]; rfl, M3.out⟩
  subst e1
  by_cases e1 : first = first'
  case neg =>
    have D : ((first : Int) == (first' : Int)) = false := by simp; omega
    have HH : Hid (q = false) := Lib.hid (no_of HQ.out (fun h => e1 h.2.2.2.2.1))
    clear e1 HQ
    go_wp2_with fail
    go_ret
    exact ⟨by rw [HH.out]; rfl, M3.out⟩
  subst e1
  by_cases e1 : last = last'
  case neg =>
    have D : ((last : Int) == (last' : Int)) = false := by simp; omega
    have HH : Hid (q = false) := Lib.hid (no_of HQ.out (fun h => e1 h.2.2.2.2.2.1))
    clear e1 HQ
    go_wp2_with fail
    go_ret
    exact ⟨by rw [HH.out]; rfl, M3.out⟩
  subst e1
  by_cases e1 : commit = commit'
  case neg =>
    have D : ((commit : Int) == (commit' : Int)) = false := by simp; omega
    have HH : Hid (q = false) := Lib.hid (no_of HQ.out (fun h => e1 h.2.2.2.2.2.2.1))
    clear e1 HQ
    go_wp2_with fail
    go_ret
    exact ⟨by rw [HH.out]; rfl, M3.out⟩
  subst e1
  have HC := Lib.hid (eqBs_any so so' batches.length batches'.length sc sc' batches batches' w3 rfl rfl l2 l4 (HSA.out.batches.mod0 M3.out) (HSB.out.batches.mod0 M3.out))
  obtain ⟨p2, hp2⟩ : ∃ p, decide (dB batches = dB batches') = p := ⟨_, rfl⟩
  rw [hp2] at HC
  have HP2 := Lib.hid hp2
  clear hp2
  go_wp2_with fail
  refine HC.out.mono ?_
  rintro e w4 ⟨rfl, m4⟩
  have M4 := Lib.hid (M3.out.trans' m4)
  have HBA4 := Lib.hid (m4.get HBA3.out List.not_mem_nil)
  have HBB4 := Lib.hid (m4.get HBB3.out List.not_mem_nil)
  clear m4 HC M3 HBA3 HBB3 a0 b0 a1 b1 a2 b2 a3 b3 a4 b4 a5 b5 a6 b6 a7 b7 a8 b8
  have a8 := cell_of_block (i := 8) HBA4.out
  simp only [List.getElem?_toArray, List.getElem?_cons_succ, List.getElem?_cons_zero] at a8
  have b8 := cell_of_block (i := 8) HBB4.out
  simp only [List.getElem?_toArray, List.getElem?_cons_succ, List.getElem?_cons_zero] at b8
  cases p2
  case false =>
    have HH : Hid (q = false) := Lib.hid (no_of HQ.out (fun h => of_decide_eq_false HP2.out h.2.2.2.2.2.2.2.1))
    clear HQ
    go_wp2_with fail
    go_ret
    exact ⟨by rw [HH.out]; rfl, M4.out⟩
  have HC := Lib.hid (bequal_any po po' pl.length pl'.length pc pc' pl pl' w4 rfl rfl (HSA.out.snap.mod0 M4.out) (HSB.out.snap.mod0 M4.out))
  obtain ⟨p3, hp3⟩ : ∃ p, decide (pl = pl') = p := ⟨_, rfl⟩
  rw [hp3] at HC
  have HH : Hid (q = p3) := Lib.hid (by
    cases p3
    · exact no_of HQ.out (fun h => of_decide_eq_false hp3 h.2.2.2.2.2.2.2.2)
    · exact HQ.out.2 (by simp [of_decide_eq_true HP.out, of_decide_eq_true HP2.out, of_decide_eq_true hp3]))
  clear hp3 HQ
  go_wp2_with fail
  refine HC.out.mono ?_
  rintro e w5 ⟨rfl, rfl⟩
  go_wp2_with fail
  go_ret
  exact ⟨by rw [HH.out]; rfl, M4.out⟩
end Go.Proofs.YtekdnljincbghaaDoor
