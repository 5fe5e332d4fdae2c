/- Texts put together (6 of 7): Msg16, MsgWakes. -/
import Derived.Test.YtekdnljincbghaaDoorZ5
import Derived.Test.YtekdnljincbghaaDoorZ4
import Derived.Lib.SlBytesConst
/- The walks of quoratelaw17.of and quorateref17.Same. -/
namespace Go.Proofs.YtekdnljincbghaaDoor
open Go Go.RowKit Go.Lib

theorem str_run {w : World} {ao : Option Addr} {c : Nat} {l : List UInt8} (h : Sees w ao l) : (convert 27 9 (.slice ao l.length c)).run Tryd.prog w = .ok (strV l) w :=
  run_string_of w _ _ _ Tryd.underlying27 Tryd.underlying5 Tryd.underlying9 ao c l h
set_option maxRecDepth 100000 in
set_option maxHeartbeats 4000000 in
theorem of17_any (m : Mm) (w : World) (hk : m.h.kind < 256) : Calls Tryd.prog 16 #[msgV m] w fun e w' => e = .returned (refV m) ∧ Mod [] w w' := by
  obtain ⟨⟨kind, bn, br, first, last, commit⟩, vo, vc, votes, so, sc, batches, pl, po, pc⟩ := m
  dsimp only at hk
  unfold msgV refV mC
  dsimp only
  obtain ⟨vl, hvl⟩ : ∃ n, votes.length = n := ⟨_, rfl⟩
  obtain ⟨bl, hbl⟩ : ∃ n, batches.length = n := ⟨_, rfl⟩
  rw [hvl, hbl]
  clear hvl hbl
  have m1 := Mod.alloc [] w (.cells #[.int .u8 (kind : Int), .int .u64 (bn : Int), .int .i64 br, .int .u64 (first : Int), .int .u64 (last : Int), .int .u64 (commit : Int), .slice vo vl vc, .slice so bl sc, .slice po pl.length pc] 29)
  have hb1 := heap_alloc_new w (.cells #[.int .u8 (kind : Int), .int .u64 (bn : Int), .int .i64 br, .int .u64 (first : Int), .int .u64 (last : Int), .int .u64 (commit : Int), .slice vo vl vc, .slice so bl sc, .slice po pl.length pc] 29)
  obtain ⟨w1, hw1⟩ : ∃ x, w.alloc (.cells #[.int .u8 (kind : Int), .int .u64 (bn : Int), .int .i64 br, .int .u64 (first : Int), .int .u64 (last : Int), .int .u64 (commit : Int), .slice vo vl vc, .slice so bl sc, .slice po pl.length pc] 29) = x := ⟨_, rfl⟩
  have hz1 : w1.heap.size = w.heap.size + 1 := by rw [← hw1]; simp
  rw [hw1] at m1 hb1
  have m2 := Mod.alloc [] w1 (.cells #[.int .i64 0, .int .u64 0, .int .i64 0, .int .u64 0, .int .u64 0, .int .u64 0, .slice none 0 0, .slice none 0 0, .slice none 0 0] 39)
  have hb2 := heap_alloc_new w1 (.cells #[.int .i64 0, .int .u64 0, .int .i64 0, .int .u64 0, .int .u64 0, .int .u64 0, .slice none 0 0, .slice none 0 0, .slice none 0 0] 39)
  obtain ⟨w2, hw2⟩ : ∃ x, w1.alloc (.cells #[.int .i64 0, .int .u64 0, .int .i64 0, .int .u64 0, .int .u64 0, .int .u64 0, .slice none 0 0, .slice none 0 0, .slice none 0 0] 39) = x := ⟨_, rfl⟩
  rw [hw2] at m2 hb2
  have hc2 := m2.get hb1 List.not_mem_nil
  have M2 := Lib.hid (m1.trans' m2)
  have HZ := Lib.hid hz1
  have c0 := cell_of_block (i := 0) hc2
  have c1 := cell_of_block (i := 1) hc2
  have c2 := cell_of_block (i := 2) hc2
  have c3 := cell_of_block (i := 3) hc2
  have c4 := cell_of_block (i := 4) hc2
  have c5 := cell_of_block (i := 5) hc2
  have c6 := cell_of_block (i := 6) hc2
  have c7 := cell_of_block (i := 7) hc2
  have c8 := cell_of_block (i := 8) hc2
  simp only [List.getElem?_toArray, List.getElem?_cons_succ, List.getElem?_cons_zero] at c0 c1 c2 c3 c4 c5 c6 c7 c8
  have z0 := cell_of_block (i := 0) hb2
  have y0 := free_of_block (i := 0) hb2
  have z1 := cell_of_block (i := 1) hb2
  have y1 := free_of_block (i := 1) hb2
  have z2 := cell_of_block (i := 2) hb2
  have y2 := free_of_block (i := 2) hb2
  have z3 := cell_of_block (i := 3) hb2
  have y3 := free_of_block (i := 3) hb2
  have z4 := cell_of_block (i := 4) hb2
  have y4 := free_of_block (i := 4) hb2
  have z5 := cell_of_block (i := 5) hb2
  have y5 := free_of_block (i := 5) hb2
  have z6 := cell_of_block (i := 6) hb2
  have y6 := free_of_block (i := 6) hb2
  have z7 := cell_of_block (i := 7) hb2
  have y7 := free_of_block (i := 7) hb2
  have z8 := cell_of_block (i := 8) hb2
  have y8 := free_of_block (i := 8) hb2
  simp only [List.getElem?_toArray, List.getElem?_cons_succ, List.getElem?_cons_zero] at z0 z1 z2 z3 z4 z5 z6 z7 z8
  clear m1 m2 hb1 hb2 hc2 hz1
  go_enter Tryd.func16, Tryd.ntmps16
  go_wp2_with fail
  ((try simp only [Exit.inBlock, Exit.then]); refine bodyPost_ret (by simp [results, Tryd.results16, go_sem, *]; try rfl) rfl ?_)
  exact ⟨rfl, M2.out.trans (T := [w1.heap.size]) (((((((((Mod.setCell _ _ _ (by simp)).trans' (Mod.setCell _ _ _ (by simp))).trans' (Mod.setCell _ _ _ (by simp))).trans' (Mod.setCell _ _ _ (by simp))).trans' (Mod.setCell _ _ _ (by simp))).trans' (Mod.setCell _ _ _ (by simp))).trans' (Mod.setCell _ _ _ (by simp))).trans' (Mod.setCell _ _ _ (by simp))).trans' (Mod.setCell _ _ _ (by simp))) (by have := HZ.out; simp; omega)⟩

set_option maxRecDepth 100000 in
set_option maxHeartbeats 8000000 in
theorem rsame_any (a b : Mm) (w : World) (ha : SeesM w a) (hb : SeesM w b) (wa : a.votes.length ≤ 9223372036854775807 ∧ a.batches.length ≤ 9223372036854775807) (wb : b.votes.length ≤ 9223372036854775807 ∧ b.batches.length ≤ 9223372036854775807) :
    Calls Tryd.prog 15 #[refV a, refV b] w fun e w' => e = .returned (.bool (decide (a.d = b.d))) ∧ Mod [] w w' := by
  have HSA := Lib.hid ha
  have HSB := Lib.hid hb
  obtain ⟨l1, l2⟩ := wa
  obtain ⟨l3, l4⟩ := wb
  have hiff := md_eq a.d b.d
  obtain ⟨q, hq⟩ : ∃ q, decide (a.d = b.d) = q := ⟨_, rfl⟩
  rw [hq]
  rw [← decide_eq_true_iff (p := a.d = b.d), hq] at hiff
  obtain ⟨⟨kind, bn, br, first, last, commit⟩, vo, vc, votes, so, sc, batches, pl, po, pc⟩ := a
  obtain ⟨⟨kind', bn', br', first', last', commit'⟩, vo', vc', votes', so', sc', batches', pl', po', pc'⟩ := b
  unfold Mm.d at hiff
  dsimp only at hiff l1 l2 l3 l4
  have HQ := Lib.hid hiff
  have HLV : Hid (dV votes = dV votes' → votes.length = votes'.length) := Lib.hid (fun h => by have := congrArg List.length h; rwa [dV_length, dV_length] at this)
  have HLB : Hid (dB batches = dB batches' → batches.length = batches'.length) := Lib.hid (fun h => by have := congrArg List.length h; rwa [dB_length, dB_length] at this)
  clear ha hb hq hiff
  unfold refV mC
  dsimp only
  obtain ⟨vl, hvl⟩ : ∃ n, votes.length = n := ⟨_, rfl⟩
  obtain ⟨bl, hbl⟩ : ∃ n, batches.length = n := ⟨_, rfl⟩
  obtain ⟨vl', hvl'⟩ : ∃ n, votes'.length = n := ⟨_, rfl⟩
  obtain ⟨bl', hbl'⟩ : ∃ n, batches'.length = n := ⟨_, rfl⟩
  rw [hvl, hbl, hvl', hbl']
  rw [hvl, hvl'] at HLV
  rw [hbl, hbl'] at HLB
  rw [hvl] at l1
  rw [hbl] at l2
  rw [hvl'] at l3
  rw [hbl'] at l4
  have HVL := Lib.hid hvl
  have HBL := Lib.hid hbl
  have HVL' := Lib.hid hvl'
  have HBL' := Lib.hid hbl'
  clear hvl hbl hvl' hbl'
  have ma := Mod.alloc [] w (.cells #[.int .i64 (kind : Int), .int .u64 (bn : Int), .int .i64 br, .int .u64 (first : Int), .int .u64 (last : Int), .int .u64 (commit : Int), .slice vo vl vc, .slice so bl sc, .slice po pl.length pc] 39)
  have hba := heap_alloc_new w (.cells #[.int .i64 (kind : Int), .int .u64 (bn : Int), .int .i64 br, .int .u64 (first : Int), .int .u64 (last : Int), .int .u64 (commit : Int), .slice vo vl vc, .slice so bl sc, .slice po pl.length pc] 39)
  obtain ⟨w1, hw1⟩ : ∃ x, w.alloc (.cells #[.int .i64 (kind : Int), .int .u64 (bn : Int), .int .i64 br, .int .u64 (first : Int), .int .u64 (last : Int), .int .u64 (commit : Int), .slice vo vl vc, .slice so bl sc, .slice po pl.length pc] 39) = x := ⟨_, rfl⟩
  rw [hw1] at ma hba
  have mb := Mod.alloc [] w1 (.cells #[.int .i64 (kind' : Int), .int .u64 (bn' : Int), .int .i64 br', .int .u64 (first' : Int), .int .u64 (last' : Int), .int .u64 (commit' : Int), .slice vo' vl' vc', .slice so' bl' sc', .slice po' pl'.length pc'] 39)
  have hbb := heap_alloc_new w1 (.cells #[.int .i64 (kind' : Int), .int .u64 (bn' : Int), .int .i64 br', .int .u64 (first' : Int), .int .u64 (last' : Int), .int .u64 (commit' : Int), .slice vo' vl' vc', .slice so' bl' sc', .slice po' pl'.length pc'] 39)
  obtain ⟨w2, hw2⟩ : ∃ x, w1.alloc (.cells #[.int .i64 (kind' : Int), .int .u64 (bn' : Int), .int .i64 br', .int .u64 (first' : Int), .int .u64 (last' : Int), .int .u64 (commit' : Int), .slice vo' vl' vc', .slice so' bl' sc', .slice po' pl'.length pc'] 39) = x := ⟨_, rfl⟩
  rw [hw2] at mb hbb
  have M3 := Lib.hid (ma.trans' mb)
  have HBA := Lib.hid (mb.get hba List.not_mem_nil)
  have HBB := Lib.hid hbb
  replace HSA := Lib.hid (HSA.out.mod0 M3.out)
  replace HSB := Lib.hid (HSB.out.mod0 M3.out)
  have SPA := Lib.hid HSA.out.snap
  have SPB := Lib.hid HSB.out.snap
  dsimp only at SPA SPB
  clear ma mb hba hbb
  go_enter Tryd.func15, Tryd.ntmps15
  have a0 := cell_of_block (i := 0) HBA.out
  have a1 := cell_of_block (i := 1) HBA.out
  have a2 := cell_of_block (i := 2) HBA.out
  have a3 := cell_of_block (i := 3) HBA.out
  have a4 := cell_of_block (i := 4) HBA.out
  have a5 := cell_of_block (i := 5) HBA.out
  have a6 := cell_of_block (i := 6) HBA.out
  have a7 := cell_of_block (i := 7) HBA.out
  have a8 := cell_of_block (i := 8) HBA.out
  simp only [List.getElem?_toArray, List.getElem?_cons_succ, List.getElem?_cons_zero] at a0 a1 a2 a3 a4 a5 a6 a7 a8
  have b0 := cell_of_block (i := 0) HBB.out
  have b1 := cell_of_block (i := 1) HBB.out
  have b2 := cell_of_block (i := 2) HBB.out
  have b3 := cell_of_block (i := 3) HBB.out
  have b4 := cell_of_block (i := 4) HBB.out
  have b5 := cell_of_block (i := 5) HBB.out
  have b6 := cell_of_block (i := 6) HBB.out
  have b7 := cell_of_block (i := 7) HBB.out
  have b8 := cell_of_block (i := 8) HBB.out
  simp only [List.getElem?_toArray, List.getElem?_cons_succ, List.getElem?_cons_zero] at b0 b1 b2 b3 b4 b5 b6 b7 b8
  by_cases e1 : kind = kind'
  case neg =>
    have D : ((kind : Int) != (kind' : Int)) = true := by simp; omega
    have HH : Hid (q = false) := Lib.hid (no_of HQ.out (fun h => e1 h.2.1))
    clear e1 HQ
    go_wp2_with fail
    go_ret
    exact ⟨by rw [HH.out]; rfl, M3.out⟩
  subst e1
  by_cases e1 : bn = bn'
  case neg =>
    have D : ((bn : Int) != (bn' : Int)) = true := by simp; omega
    have D2 : ((bn : Int) = (bn' : Int)) = False := by simp; omega
    have D3 : (bn = bn') = False := by simp; omega
    have HH : Hid (q = false) := Lib.hid (no_of HQ.out (fun h => e1 h.2.2.1))
    clear e1 HQ
    go_wp2_with fail
    go_ret
    exact ⟨by rw [HH.out]; rfl, M3.out⟩
  subst e1
  by_cases e1 : br = br'
  case neg =>
    have D : (br != br') = true := by simp; omega
    have D3 : (br = br') = False := by simp; omega
    have HH : Hid (q = false) := Lib.hid (no_of HQ.out (fun h => e1 h.2.2.2.1))
    clear e1 HQ
    go_wp2_with fail
    go_ret
    exact ⟨by rw [HH.out]; rfl, M3.out⟩
  subst e1
  by_cases e1 : first = first'
  case neg =>
    have D : ((first : Int) != (first' : Int)) = true := by simp; omega
    have HH : Hid (q = false) := Lib.hid (no_of HQ.out (fun h => e1 h.2.2.2.2.1))
    clear e1 HQ
    go_wp2_with fail
    go_ret
    exact ⟨by rw [HH.out]; rfl, M3.out⟩
  subst e1
  by_cases e1 : last = last'
  case neg =>
    have D : ((last : Int) != (last' : Int)) = true := by simp; omega
    have HH : Hid (q = false) := Lib.hid (no_of HQ.out (fun h => e1 h.2.2.2.2.2.1))
    clear e1 HQ
    go_wp2_with fail
    go_ret
    exact ⟨by rw [HH.out]; rfl, M3.out⟩
  subst e1
  by_cases e1 : commit = commit'
  case neg =>
    have D : ((commit : Int) != (commit' : Int)) = true := by simp; omega
    have HH : Hid (q = false) := Lib.hid (no_of HQ.out (fun h => e1 h.2.2.2.2.2.2.1))
    clear e1 HQ
    go_wp2_with fail
    go_ret
    exact ⟨by rw [HH.out]; rfl, M3.out⟩
  subst e1
  have cvA := str_run (c := pc) SPA.out
  have cvB := str_run (c := pc') SPB.out
  by_cases e1 : pl = pl'
  case neg =>
    have D : (pl == pl') = false := by simpa using e1
    have HH : Hid (q = false) := Lib.hid (no_of HQ.out (fun h => e1 h.2.2.2.2.2.2.2.2))
    clear e1 HQ
    go_wp2_with fail
    go_ret
    exact ⟨by rw [HH.out]; rfl, M3.out⟩
  have D : (pl == pl') = true := by simpa using e1
  have HPL := Lib.hid e1
  clear e1
  by_cases e1 : bl = bl'
  case neg =>
    have D1 : ((bl : Int) != (bl' : Int)) = true := by simp; omega
    have HH : Hid (q = false) := Lib.hid (no_of HQ.out (fun h => e1 (HLB.out h.2.2.2.2.2.2.2.1)))
    clear e1 HQ
    go_wp2_with fail
    go_ret
    exact ⟨by rw [HH.out]; rfl, M3.out⟩
  subst e1
  by_cases e1 : vl = vl'
  case neg =>
    have D1 : ((vl : Int) != (vl' : Int)) = true := by simp; omega
    have HH : Hid (q = false) := Lib.hid (no_of HQ.out (fun h => e1 (HLV.out h.1)))
    clear e1 HQ
    go_wp2_with fail
    go_ret
    exact ⟨by rw [HH.out]; rfl, M3.out⟩
  subst e1
  clear HLB HLV
  go_wp2_with fail
  clear D cvA cvB a0 a1 a2 a3 a4 a5 a6 a7 a8 b0 b1 b2 b3 b4 b5 b6 b7 b8
  go_loopw [5] (fun s5 wr => ∃ k : Nat, k ≤ bl ∧ s5 = .int .i64 (k : Int) ∧ (dB batches).take k = (dB batches').take k ∧ Mod [] w2 wr) (fun s5 _ => bl - (intOf s5).toNat)
  case atStart => exact ⟨0, Nat.zero_le _, rfl, rfl, Mod.refl _ _⟩
  case round =>
    obtain ⟨k, hk, rfl, hall, hm⟩ := hrel
    rename World => wr
    have HA := Lib.hid hall
    have HM := Lib.hid hm
    have MM := Lib.hid (M3.out.trans' hm)
    have HBAr := Lib.hid (hm.get HBA.out List.not_mem_nil)
    have HBBr := Lib.hid (hm.get HBB.out List.not_mem_nil)
    clear hall hm
    have a7 := cell_of_block (i := 7) HBAr.out
    simp only [List.getElem?_toArray, List.getElem?_cons_succ, List.getElem?_cons_zero] at a7
    by_cases hlt : k < bl
    case pos =>
      have hlt3 : (k : Int) < (bl : Int) := by omega
      have g1 : k < batches.length := by rw [HBL.out]; exact hlt
      have g2 : k < batches'.length := by rw [HBL'.out]; exact hlt
      have d1 : k < (dB batches).length := by rw [dB_length]; exact g1
      have d2 : k < (dB batches').length := by rw [dB_length]; exact g2
      go_upto_region 6 with (fail)
      obtain ⟨b, off, rfl, hb⟩ := HSA.out.batches.batch g1
      obtain ⟨b', off', rfl, hb'⟩ := HSB.out.batches.batch g2
      have hst := take_eq_step (dB batches) (dB batches') k d1 d2 HA.out
      rw [dB_get batches k g1 d1, dB_get batches' k g2 d2] at hst
      obtain ⟨⟨x, xo, xc⟩, hx⟩ : ∃ x', batches[k] = x' := ⟨_, rfl⟩
      obtain ⟨⟨y, yo, yc⟩, hy⟩ : ∃ x', batches'[k] = x' := ⟨_, rfl⟩
      rw [hx] at hb hst
      rw [hy] at hb' hst
      dsimp only at hb hb' hst
      have HST := Lib.hid hst
      have HX := Lib.hid hb
      have HY := Lib.hid hb'
      clear hst hb hb' hx hy g1 g2 d1 d2 a7 HA
      obtain ⟨qe, hqe⟩ : ∃ t, decide (x = y) = t := ⟨_, rfl⟩
      have HQE : Hid (qe = true ↔ x = y) := Lib.hid (by rw [← hqe]; simp)
      have DQ := Lib.hid hqe
      clear hqe
      refine rest_start [] 13 #[false, false, false, false, false, false, false, false, false, false, false, false, false] rfl (by kernel_rfl) (by kernel_rfl) ?_
      intro w6 m6
      obtain ⟨p0, px⟩ := HX.out w6 (HM.out.trans' m6)
      obtain ⟨p1, py⟩ := HY.out w6 (HM.out.trans' m6)
      have A7 := Lib.hid (cell_of_block (i := 7) (m6.get HBAr.out List.not_mem_nil))
      have B7 := Lib.hid (cell_of_block (i := 7) (m6.get HBBr.out List.not_mem_nil))
      have P0 := Lib.hid p0
      have P1 := Lib.hid p1
      have PX := Lib.hid px
      have PY := Lib.hid py
      have HM6 := Lib.hid (HM.out.trans' m6)
      have MM6 := Lib.hid (MM.out.trans' m6)
      clear m6 p0 px p1 py HM MM HX HY
      refine rest_got (i := 0) (v := ?v1) rfl (by kernel_rfl) (by kernel_rfl) (by kernel_rfl) (fun _ _ _ h => h) (by rfl) ?y1 ?r1
      case y1 => (intro w9q hSwq; clear hSwq; go_simp; with_reducible rfl)
      try simp only [Act.put, List.setIfInBounds_toArray, List.set_cons_zero, List.set_cons_succ]
      refine rest_got (i := 1) (v := ?v2) rfl (by kernel_rfl) (by kernel_rfl) (by kernel_rfl) (fun _ _ _ h => h) (by rfl) ?y2 ?r2
      case y2 => ((intro w9' hm9'; have hc9' := Mod.cell hm9' A7.out (by first | exact List.not_mem_nil | assumption | (simp; done) | (simp; omega)); clear hm9'; go_simp; with_reducible rfl))
      try simp only [Act.put, List.setIfInBounds_toArray, List.set_cons_zero, List.set_cons_succ]
      refine rest_got (i := 2) (v := ?v3) rfl (by kernel_rfl) (by kernel_rfl) (by kernel_rfl) (fun _ _ _ h => h) (by rfl) ?y3 ?r3
      case y3 => (intro w9q hSwq; clear hSwq; go_simp; with_reducible rfl)
      try simp only [Act.put, List.setIfInBounds_toArray, List.set_cons_zero, List.set_cons_succ]
      refine rest_got (i := 3) (v := ?v4) rfl (by kernel_rfl) (by kernel_rfl) (by kernel_rfl) (fun _ _ _ h => h) (by rfl) ?y4 ?r4
      case y4 => (intro w9q hSwq; clear hSwq; go_simp; with_reducible rfl)
      try simp only [Act.put, List.setIfInBounds_toArray, List.set_cons_zero, List.set_cons_succ]
      refine rest_got (i := 4) (v := ?v5) rfl (by kernel_rfl) (by kernel_rfl) (by kernel_rfl) (fun _ _ _ h => h) (by rfl) ?y5 ?r5
      case y5 => ((intro w9' hm9'; have hc9' := Mod.cell hm9' P0.out (by first | exact List.not_mem_nil | assumption | (simp; done) | (simp; omega)); clear hm9'; go_simp; with_reducible rfl))
      try simp only [Act.put, List.setIfInBounds_toArray, List.set_cons_zero, List.set_cons_succ]
      refine rest_got (i := 5) (v := ?v6) rfl (by kernel_rfl) (by kernel_rfl) (by kernel_rfl) (fun _ _ _ h => h) (by rfl) ?y6 ?r6
      case y6 => ((intro w9' hm9'; refine Eq.trans (reads_str _ _ _ _ 5 Tryd.underlying27 Tryd.underlying5 Tryd.underlying9 _ _ _ _ rfl (by first | rfl | simp) PX.out (by first | (intro k _ hk; exact (List.not_mem_nil hk)) | simp) w9' hm9') ?_; with_reducible rfl))
      try simp only [Act.put, List.setIfInBounds_toArray, List.set_cons_zero, List.set_cons_succ]
      refine rest_got (i := 6) (v := ?v7) rfl (by kernel_rfl) (by kernel_rfl) (by kernel_rfl) (fun _ _ _ h => h) (by rfl) ?y7 ?r7
      case y7 => (intro w9q hSwq; clear hSwq; go_simp; with_reducible rfl)
      try simp only [Act.put, List.setIfInBounds_toArray, List.set_cons_zero, List.set_cons_succ]
      refine rest_got (i := 7) (v := ?v8) rfl (by kernel_rfl) (by kernel_rfl) (by kernel_rfl) (fun _ _ _ h => h) (by rfl) ?y8 ?r8
      case y8 => ((intro w9' hm9'; have hc9' := Mod.cell hm9' B7.out (by first | exact List.not_mem_nil | assumption | (simp; done) | (simp; omega)); clear hm9'; go_simp; with_reducible rfl))
      try simp only [Act.put, List.setIfInBounds_toArray, List.set_cons_zero, List.set_cons_succ]
      refine rest_got (i := 8) (v := ?v9) rfl (by kernel_rfl) (by kernel_rfl) (by kernel_rfl) (fun _ _ _ h => h) (by rfl) ?y9 ?r9
      case y9 => (intro w9q hSwq; clear hSwq; go_simp; with_reducible rfl)
      try simp only [Act.put, List.setIfInBounds_toArray, List.set_cons_zero, List.set_cons_succ]
      refine rest_got (i := 9) (v := ?v10) rfl (by kernel_rfl) (by kernel_rfl) (by kernel_rfl) (fun _ _ _ h => h) (by rfl) ?y10 ?r10
      case y10 => (intro w9q hSwq; clear hSwq; go_simp; with_reducible rfl)
      try simp only [Act.put, List.setIfInBounds_toArray, List.set_cons_zero, List.set_cons_succ]
      refine rest_got (i := 10) (v := ?v11) rfl (by kernel_rfl) (by kernel_rfl) (by kernel_rfl) (fun _ _ _ h => h) (by rfl) ?y11 ?r11
      case y11 => ((intro w9' hm9'; have hc9' := Mod.cell hm9' P1.out (by first | exact List.not_mem_nil | assumption | (simp; done) | (simp; omega)); clear hm9'; go_simp; with_reducible rfl))
      try simp only [Act.put, List.setIfInBounds_toArray, List.set_cons_zero, List.set_cons_succ]
      refine rest_got (i := 11) (v := ?v12) rfl (by kernel_rfl) (by kernel_rfl) (by kernel_rfl) (fun _ _ _ h => h) (by rfl) ?y12 ?r12
      case y12 => ((intro w9' hm9'; refine Eq.trans (reads_str _ _ _ _ 5 Tryd.underlying27 Tryd.underlying5 Tryd.underlying9 _ _ _ _ rfl (by first | rfl | simp) PY.out (by first | (intro k _ hk; exact (List.not_mem_nil hk)) | simp) w9' hm9') ?_; with_reducible rfl))
      try simp only [Act.put, List.setIfInBounds_toArray, List.set_cons_zero, List.set_cons_succ]
      refine rest_got (i := 12) (v := ?v13) rfl (by kernel_rfl) (by kernel_rfl) (by kernel_rfl) (fun _ _ _ h => h) (by rfl) ?y13 ?r13
      case y13 => ((intro w9' hm9'; refine Eq.trans (reads_nes w9' _ _ _ _ _ rfl rfl) ?_; refine Eq.trans (congrArg (fun b => Result.ok (Next.value (Value.bool (!b))) w9') DQ.out) ?_; with_reducible rfl))
      try simp only [Act.put, List.setIfInBounds_toArray, List.set_cons_zero, List.set_cons_succ]
      refine rest_done (by kernel_rfl) ?_ _
      cases qe
      case false =>
        have HH : Hid (q = false) := Lib.hid (no_of HQ.out (fun h => by
          have h1 := h.2.2.2.2.2.2.2.1
          have h2 := HST.out.1 (by rw [h1])
          exact absurd (HQE.out.2 h2) (by decide)))
        clear HQ HST HQE
        go_wp2_with fail
        go_ret
        exact ⟨by rw [HH.out]; rfl, MM6.out⟩
      have HA2 := Lib.hid (HST.out.2 (HQE.out.1 rfl))
      clear HST HQE
      go_wp2_with fail
      go_roundw
      case rel => exact ⟨k + 1, by omega, by go_num, HA2.out, HM6.out⟩
      case measure => simp [intOf]; omega
    case neg =>
      have hke : k = bl := by omega
      have HB : Hid (dB batches = dB batches') := Lib.hid (by
        have h := HA.out
        rwa [List.take_of_length_le (by rw [dB_length, HBL.out]; omega), List.take_of_length_le (by rw [dB_length, HBL'.out]; omega)] at h)
      subst hke
      clear HA
      go_wp2_with fail
      go_loopw [6] (fun s6 ws => ∃ k2 : Nat, k2 ≤ vl ∧ s6 = .int .i64 (k2 : Int) ∧ (dV votes).take k2 = (dV votes').take k2 ∧ Mod [] w2 ws) (fun s6 _ => vl - (intOf s6).toNat)
      case atStart => exact ⟨0, Nat.zero_le _, rfl, rfl, HM.out⟩
      case round =>
        obtain ⟨k2, hk2, rfl, hall, hm⟩ := hrel
        rename World => ws
        have HA := Lib.hid hall
        have HM2 := Lib.hid hm
        have MM2 := Lib.hid (M3.out.trans' hm)
        have HBAs := Lib.hid (hm.get HBA.out List.not_mem_nil)
        have HBBs := Lib.hid (hm.get HBB.out List.not_mem_nil)
        clear hall hm HM MM HBAr HBBr a7
        have a6 := cell_of_block (i := 6) HBAs.out
        simp only [List.getElem?_toArray, List.getElem?_cons_succ, List.getElem?_cons_zero] at a6
        by_cases hlt2 : k2 < vl
        case neg =>
          have hke2 : k2 = vl := by omega
          have HV : Hid (dV votes = dV votes') := Lib.hid (by
            have h := HA.out
            rwa [List.take_of_length_le (by rw [dV_length, HVL.out]; omega), List.take_of_length_le (by rw [dV_length, HVL'.out]; omega)] at h)
          have HH : Hid (q = true) := Lib.hid (HQ.out.2 (by simp [HV.out, HB.out, HPL.out]))
          subst hke2
          clear HA
          go_wp2_with fail
          go_ret
          exact ⟨by rw [HH.out]; rfl, MM2.out⟩
        have hlt4 : (k2 : Int) < (vl : Int) := by omega
        have g1 : k2 < votes.length := by rw [HVL.out]; exact hlt2
        have g2 : k2 < votes'.length := by rw [HVL'.out]; exact hlt2
        have d1 : k2 < (dV votes).length := by rw [dV_length]; exact g1
        have d2 : k2 < (dV votes').length := by rw [dV_length]; exact g2
        go_upto_region 11 with (fail)
        obtain ⟨b, off, rfl, hb⟩ := HSA.out.votes.vote g1
        obtain ⟨b', off', rfl, hb'⟩ := HSB.out.votes.vote g2
        have hst := take_eq_step (dV votes) (dV votes') k2 d1 d2 HA.out
        rw [dV_get votes k2 g1 d1, dV_get votes' k2 g2 d2] at hst
        obtain ⟨⟨⟨sl, n1, r1⟩, x, xo, xc⟩, hx⟩ : ∃ x', votes[k2] = x' := ⟨_, rfl⟩
        obtain ⟨⟨⟨sl', n1', r1'⟩, y, yo, yc⟩, hy⟩ : ∃ x', votes'[k2] = x' := ⟨_, rfl⟩
        rw [hx] at hb hst
        rw [hy] at hb' hst
        dsimp only at hb hb' hst
        simp only [Prod.mk.injEq, Vd.mk.injEq] at hst
        have HST := Lib.hid hst
        have HX := Lib.hid hb
        have HY := Lib.hid hb'
        have DQ : Hid (decide (x = y) = decide (x = y)) := Lib.hid rfl
        have HNO : Hid (¬ ((dV votes).take (k2 + 1) = (dV votes').take (k2 + 1)) → q = false) := Lib.hid (fun hn => no_of HQ.out (fun h => hn (by rw [h.1])))
        clear hst hb hb' hx hy g1 g2 d1 d2 a6 HA
        by_cases e1 : sl = sl'
        case neg =>
          have D : ((sl : Int) != (sl' : Int)) = true := by simp; omega
          have D2 : ((sl : Int) = (sl' : Int)) = False := by simp; omega
          have D3 : (sl = sl') = False := by simp; omega
          have HH : Hid (q = false) := Lib.hid (HNO.out (fun h => e1 (HST.out.1 h).1.1))
          clear e1 HQ HST HNO
          refine rest_start [] 45 #[false, false, false, false, false, false, false, false, false, false, false, false, false, false, false, false, false, false, false, false, false, false, false, false, false, false, false, false, false, false, false, false, false, false, false, false, false, false, false, false, false, false, false, false, false] rfl (by kernel_rfl) (by kernel_rfl) ?_
          intro w6 m6
          obtain ⟨p0, p1, p2, p3, px⟩ := HX.out w6 (HM2.out.trans' m6)
          obtain ⟨q0, q1, q2, q3, py⟩ := HY.out w6 (HM2.out.trans' m6)
          have A6 := Lib.hid (cell_of_block (i := 6) (m6.get HBAs.out List.not_mem_nil))
          have B6 := Lib.hid (cell_of_block (i := 6) (m6.get HBBs.out List.not_mem_nil))
          have P0 := Lib.hid p0
          have P1 := Lib.hid p1
          have P2 := Lib.hid p2
          have P3 := Lib.hid p3
          have Q0 := Lib.hid q0
          have Q1 := Lib.hid q1
          have Q2 := Lib.hid q2
          have Q3 := Lib.hid q3
          have PX := Lib.hid px
          have PY := Lib.hid py
          have HM6 := Lib.hid (HM2.out.trans' m6)
          have MM6 := Lib.hid (MM2.out.trans' m6)
          clear m6 p0 p1 p2 p3 px q0 q1 q2 q3 py HM2 MM2 HX HY
          refine rest_got (i := 0) (v := ?v14) rfl (by kernel_rfl) (by kernel_rfl) (by kernel_rfl) (fun _ _ _ h => h) (by rfl) ?y14 ?r14
          case y14 => (intro w9q hSwq; clear hSwq; go_simp; with_reducible rfl)
          try simp only [Act.put, List.setIfInBounds_toArray, List.set_cons_zero, List.set_cons_succ]
          refine rest_got (i := 1) (v := ?v15) rfl (by kernel_rfl) (by kernel_rfl) (by kernel_rfl) (fun _ _ _ h => h) (by rfl) ?y15 ?r15
          case y15 => ((intro w9' hm9'; have hc9' := Mod.cell hm9' A6.out (by first | exact List.not_mem_nil | assumption | (simp; done) | (simp; omega)); clear hm9'; go_simp; with_reducible rfl))
          try simp only [Act.put, List.setIfInBounds_toArray, List.set_cons_zero, List.set_cons_succ]
          refine rest_got (i := 2) (v := ?v16) rfl (by kernel_rfl) (by kernel_rfl) (by kernel_rfl) (fun _ _ _ h => h) (by rfl) ?y16 ?r16
          case y16 => (intro w9q hSwq; clear hSwq; go_simp; with_reducible rfl)
          try simp only [Act.put, List.setIfInBounds_toArray, List.set_cons_zero, List.set_cons_succ]
          refine rest_got (i := 3) (v := ?v17) rfl (by kernel_rfl) (by kernel_rfl) (by kernel_rfl) (fun _ _ _ h => h) (by rfl) ?y17 ?r17
          case y17 => (intro w9q hSwq; clear hSwq; go_simp; with_reducible rfl)
          try simp only [Act.put, List.setIfInBounds_toArray, List.set_cons_zero, List.set_cons_succ]
          refine rest_got (i := 4) (v := ?v18) rfl (by kernel_rfl) (by kernel_rfl) (by kernel_rfl) (fun _ _ _ h => h) (by rfl) ?y18 ?r18
          case y18 => (intro w9q hSwq; clear hSwq; go_simp; with_reducible rfl)
          try simp only [Act.put, List.setIfInBounds_toArray, List.set_cons_zero, List.set_cons_succ]
          refine rest_got (i := 5) (v := ?v19) rfl (by kernel_rfl) (by kernel_rfl) (by kernel_rfl) (fun _ _ _ h => h) (by rfl) ?y19 ?r19
          case y19 => ((intro w9' hm9'; have hc9' := Mod.cell hm9' P0.out (by first | exact List.not_mem_nil | assumption | (simp; done) | (simp; omega)); clear hm9'; go_simp; with_reducible rfl))
          try simp only [Act.put, List.setIfInBounds_toArray, List.set_cons_zero, List.set_cons_succ]
          refine rest_got (i := 6) (v := ?v20) rfl (by kernel_rfl) (by kernel_rfl) (by kernel_rfl) (fun _ _ _ h => h) (by rfl) ?y20 ?r20
          case y20 => (intro w9q hSwq; clear hSwq; go_simp; with_reducible rfl)
          try simp only [Act.put, List.setIfInBounds_toArray, List.set_cons_zero, List.set_cons_succ]
          refine rest_got (i := 7) (v := ?v21) rfl (by kernel_rfl) (by kernel_rfl) (by kernel_rfl) (fun _ _ _ h => h) (by rfl) ?y21 ?r21
          case y21 => ((intro w9' hm9'; have hc9' := Mod.cell hm9' B6.out (by first | exact List.not_mem_nil | assumption | (simp; done) | (simp; omega)); clear hm9'; go_simp; with_reducible rfl))
          try simp only [Act.put, List.setIfInBounds_toArray, List.set_cons_zero, List.set_cons_succ]
          refine rest_got (i := 8) (v := ?v22) rfl (by kernel_rfl) (by kernel_rfl) (by kernel_rfl) (fun _ _ _ h => h) (by rfl) ?y22 ?r22
          case y22 => (intro w9q hSwq; clear hSwq; go_simp; with_reducible rfl)
          try simp only [Act.put, List.setIfInBounds_toArray, List.set_cons_zero, List.set_cons_succ]
          refine rest_got (i := 9) (v := ?v23) rfl (by kernel_rfl) (by kernel_rfl) (by kernel_rfl) (fun _ _ _ h => h) (by rfl) ?y23 ?r23
          case y23 => (intro w9q hSwq; clear hSwq; go_simp; with_reducible rfl)
          try simp only [Act.put, List.setIfInBounds_toArray, List.set_cons_zero, List.set_cons_succ]
          refine rest_got (i := 10) (v := ?v24) rfl (by kernel_rfl) (by kernel_rfl) (by kernel_rfl) (fun _ _ _ h => h) (by rfl) ?y24 ?r24
          case y24 => (intro w9q hSwq; clear hSwq; go_simp; with_reducible rfl)
          try simp only [Act.put, List.setIfInBounds_toArray, List.set_cons_zero, List.set_cons_succ]
          refine rest_got (i := 11) (v := ?v25) rfl (by kernel_rfl) (by kernel_rfl) (by kernel_rfl) (fun _ _ _ h => h) (by rfl) ?y25 ?r25
          case y25 => ((intro w9' hm9'; have hc9' := Mod.cell hm9' Q0.out (by first | exact List.not_mem_nil | assumption | (simp; done) | (simp; omega)); clear hm9'; go_simp; with_reducible rfl))
          try simp only [Act.put, List.setIfInBounds_toArray, List.set_cons_zero, List.set_cons_succ]
          refine rest_got (i := 12) (v := ?v26) rfl (by kernel_rfl) (by kernel_rfl) (by kernel_rfl) (fun _ _ _ h => h) (by rfl) ?y26 ?r26
          case y26 => (intro w9q hSwq; clear hSwq; go_simp; with_reducible rfl)
          try simp only [Act.put, List.setIfInBounds_toArray, List.set_cons_zero, List.set_cons_succ]
          refine rest_got (i := 13) (v := ?v27) rfl (by kernel_rfl) (by kernel_rfl) (by kernel_rfl) (fun _ _ _ h => h) (by rfl) ?y27 ?r27
          case y27 => (intro w9q hSwq; clear hSwq; go_simp; with_reducible rfl)
          try simp only [Act.put, List.setIfInBounds_toArray, List.set_cons_zero, List.set_cons_succ]
          refine rest_skip (i := 14) rfl (by kernel_rfl) (by kernel_rfl) (by kernel_rfl) (fun _ _ _ h => h) (by rfl) ?_
          try simp only [Act.put, List.setIfInBounds_toArray, List.set_cons_zero, List.set_cons_succ]
          refine rest_skip (i := 15) rfl (by kernel_rfl) (by kernel_rfl) (by kernel_rfl) (fun _ _ _ h => h) (by rfl) ?_
          try simp only [Act.put, List.setIfInBounds_toArray, List.set_cons_zero, List.set_cons_succ]
          refine rest_skip (i := 16) rfl (by kernel_rfl) (by kernel_rfl) (by kernel_rfl) (fun _ _ _ h => h) (by rfl) ?_
          try simp only [Act.put, List.setIfInBounds_toArray, List.set_cons_zero, List.set_cons_succ]
          refine rest_skip (i := 17) rfl (by kernel_rfl) (by kernel_rfl) (by kernel_rfl) (fun _ _ _ h => h) (by rfl) ?_
          try simp only [Act.put, List.setIfInBounds_toArray, List.set_cons_zero, List.set_cons_succ]
          refine rest_skip (i := 18) rfl (by kernel_rfl) (by kernel_rfl) (by kernel_rfl) (fun _ _ _ h => h) (by rfl) ?_
          try simp only [Act.put, List.setIfInBounds_toArray, List.set_cons_zero, List.set_cons_succ]
          refine rest_skip (i := 19) rfl (by kernel_rfl) (by kernel_rfl) (by kernel_rfl) (fun _ _ _ h => h) (by rfl) ?_
          try simp only [Act.put, List.setIfInBounds_toArray, List.set_cons_zero, List.set_cons_succ]
          refine rest_skip (i := 20) rfl (by kernel_rfl) (by kernel_rfl) (by kernel_rfl) (fun _ _ _ h => h) (by rfl) ?_
          try simp only [Act.put, List.setIfInBounds_toArray, List.set_cons_zero, List.set_cons_succ]
          refine rest_skip (i := 21) rfl (by kernel_rfl) (by kernel_rfl) (by kernel_rfl) (fun _ _ _ h => h) (by rfl) ?_
          try simp only [Act.put, List.setIfInBounds_toArray, List.set_cons_zero, List.set_cons_succ]
          refine rest_skip (i := 22) rfl (by kernel_rfl) (by kernel_rfl) (by kernel_rfl) (fun _ _ _ h => h) (by rfl) ?_
          try simp only [Act.put, List.setIfInBounds_toArray, List.set_cons_zero, List.set_cons_succ]
          refine rest_skip (i := 23) rfl (by kernel_rfl) (by kernel_rfl) (by kernel_rfl) (fun _ _ _ h => h) (by rfl) ?_
          try simp only [Act.put, List.setIfInBounds_toArray, List.set_cons_zero, List.set_cons_succ]
          refine rest_skip (i := 24) rfl (by kernel_rfl) (by kernel_rfl) (by kernel_rfl) (fun _ _ _ h => h) (by rfl) ?_
          try simp only [Act.put, List.setIfInBounds_toArray, List.set_cons_zero, List.set_cons_succ]
          refine rest_skip (i := 25) rfl (by kernel_rfl) (by kernel_rfl) (by kernel_rfl) (fun _ _ _ h => h) (by rfl) ?_
          try simp only [Act.put, List.setIfInBounds_toArray, List.set_cons_zero, List.set_cons_succ]
          refine rest_skip (i := 26) rfl (by kernel_rfl) (by kernel_rfl) (by kernel_rfl) (fun _ _ _ h => h) (by rfl) ?_
          try simp only [Act.put, List.setIfInBounds_toArray, List.set_cons_zero, List.set_cons_succ]
          refine rest_got (i := 27) (v := ?v28) rfl (by kernel_rfl) (by kernel_rfl) (by kernel_rfl) (fun _ _ _ h => h) (by rfl) ?y28 ?r28
          case y28 => (intro w9q hSwq; clear hSwq; go_simp; with_reducible rfl)
          try simp only [Act.put, List.setIfInBounds_toArray, List.set_cons_zero, List.set_cons_succ]
          refine rest_got (i := 28) (v := ?v29) rfl (by kernel_rfl) (by kernel_rfl) (by kernel_rfl) (fun _ _ _ h => h) (by rfl) ?y29 ?r29
          case y29 => (intro w9q hSwq; clear hSwq; go_simp; with_reducible rfl)
          try simp only [Act.put, List.setIfInBounds_toArray, List.set_cons_zero, List.set_cons_succ]
          refine rest_skip (i := 29) rfl (by kernel_rfl) (by kernel_rfl) (by kernel_rfl) (fun _ _ _ h => h) (by rfl) ?_
          try simp only [Act.put, List.setIfInBounds_toArray, List.set_cons_zero, List.set_cons_succ]
          refine rest_skip (i := 30) rfl (by kernel_rfl) (by kernel_rfl) (by kernel_rfl) (fun _ _ _ h => h) (by rfl) ?_
          try simp only [Act.put, List.setIfInBounds_toArray, List.set_cons_zero, List.set_cons_succ]
          refine rest_skip (i := 31) rfl (by kernel_rfl) (by kernel_rfl) (by kernel_rfl) (fun _ _ _ h => h) (by rfl) ?_
          try simp only [Act.put, List.setIfInBounds_toArray, List.set_cons_zero, List.set_cons_succ]
          refine rest_skip (i := 32) rfl (by kernel_rfl) (by kernel_rfl) (by kernel_rfl) (fun _ _ _ h => h) (by rfl) ?_
          try simp only [Act.put, List.setIfInBounds_toArray, List.set_cons_zero, List.set_cons_succ]
          refine rest_skip (i := 33) rfl (by kernel_rfl) (by kernel_rfl) (by kernel_rfl) (fun _ _ _ h => h) (by rfl) ?_
          try simp only [Act.put, List.setIfInBounds_toArray, List.set_cons_zero, List.set_cons_succ]
          refine rest_skip (i := 34) rfl (by kernel_rfl) (by kernel_rfl) (by kernel_rfl) (fun _ _ _ h => h) (by rfl) ?_
          try simp only [Act.put, List.setIfInBounds_toArray, List.set_cons_zero, List.set_cons_succ]
          refine rest_skip (i := 35) rfl (by kernel_rfl) (by kernel_rfl) (by kernel_rfl) (fun _ _ _ h => h) (by rfl) ?_
          try simp only [Act.put, List.setIfInBounds_toArray, List.set_cons_zero, List.set_cons_succ]
          refine rest_skip (i := 36) rfl (by kernel_rfl) (by kernel_rfl) (by kernel_rfl) (fun _ _ _ h => h) (by rfl) ?_
          try simp only [Act.put, List.setIfInBounds_toArray, List.set_cons_zero, List.set_cons_succ]
          refine rest_skip (i := 37) rfl (by kernel_rfl) (by kernel_rfl) (by kernel_rfl) (fun _ _ _ h => h) (by rfl) ?_
          try simp only [Act.put, List.setIfInBounds_toArray, List.set_cons_zero, List.set_cons_succ]
          refine rest_skip (i := 38) rfl (by kernel_rfl) (by kernel_rfl) (by kernel_rfl) (fun _ _ _ h => h) (by rfl) ?_
          try simp only [Act.put, List.setIfInBounds_toArray, List.set_cons_zero, List.set_cons_succ]
          refine rest_skip (i := 39) rfl (by kernel_rfl) (by kernel_rfl) (by kernel_rfl) (fun _ _ _ h => h) (by rfl) ?_
          try simp only [Act.put, List.setIfInBounds_toArray, List.set_cons_zero, List.set_cons_succ]
          refine rest_skip (i := 40) rfl (by kernel_rfl) (by kernel_rfl) (by kernel_rfl) (fun _ _ _ h => h) (by rfl) ?_
          try simp only [Act.put, List.setIfInBounds_toArray, List.set_cons_zero, List.set_cons_succ]
          refine rest_skip (i := 41) rfl (by kernel_rfl) (by kernel_rfl) (by kernel_rfl) (fun _ _ _ h => h) (by rfl) ?_
          try simp only [Act.put, List.setIfInBounds_toArray, List.set_cons_zero, List.set_cons_succ]
          refine rest_skip (i := 42) rfl (by kernel_rfl) (by kernel_rfl) (by kernel_rfl) (fun _ _ _ h => h) (by rfl) ?_
          try simp only [Act.put, List.setIfInBounds_toArray, List.set_cons_zero, List.set_cons_succ]
          refine rest_skip (i := 43) rfl (by kernel_rfl) (by kernel_rfl) (by kernel_rfl) (fun _ _ _ h => h) (by rfl) ?_
          try simp only [Act.put, List.setIfInBounds_toArray, List.set_cons_zero, List.set_cons_succ]
          refine rest_got (i := 44) (v := ?v30) rfl (by kernel_rfl) (by kernel_rfl) (by kernel_rfl) (fun _ _ _ h => h) (by rfl) ?y30 ?r30
          case y30 => (intro w9q hSwq; clear hSwq; go_simp; with_reducible rfl)
          try simp only [Act.put, List.setIfInBounds_toArray, List.set_cons_zero, List.set_cons_succ]
          refine rest_done (by kernel_rfl) ?_ _
          go_wp2_with fail
          go_ret
          exact ⟨by rw [HH.out]; rfl, MM6.out⟩
        subst e1
        by_cases e1 : n1 = n1'
        case neg =>
          have D : ((n1 : Int) != (n1' : Int)) = true := by simp; omega
          have D2 : ((n1 : Int) = (n1' : Int)) = False := by simp; omega
          have D3 : (n1 = n1') = False := by simp; omega
          have HH : Hid (q = false) := Lib.hid (HNO.out (fun h => e1 (HST.out.1 h).1.2.1))
          clear e1 HQ HST HNO
          refine rest_start [] 45 #[false, false, false, false, false, false, false, false, false, false, false, false, false, false, false, false, false, false, false, false, false, false, false, false, false, false, false, false, false, false, false, false, false, false, false, false, false, false, false, false, false, false, false, false, false] rfl (by kernel_rfl) (by kernel_rfl) ?_
          intro w6 m6
          obtain ⟨p0, p1, p2, p3, px⟩ := HX.out w6 (HM2.out.trans' m6)
          obtain ⟨q0, q1, q2, q3, py⟩ := HY.out w6 (HM2.out.trans' m6)
          have A6 := Lib.hid (cell_of_block (i := 6) (m6.get HBAs.out List.not_mem_nil))
          have B6 := Lib.hid (cell_of_block (i := 6) (m6.get HBBs.out List.not_mem_nil))
          have P0 := Lib.hid p0
          have P1 := Lib.hid p1
          have P2 := Lib.hid p2
          have P3 := Lib.hid p3
          have Q0 := Lib.hid q0
          have Q1 := Lib.hid q1
          have Q2 := Lib.hid q2
          have Q3 := Lib.hid q3
          have PX := Lib.hid px
          have PY := Lib.hid py
          have HM6 := Lib.hid (HM2.out.trans' m6)
          have MM6 := Lib.hid (MM2.out.trans' m6)
          clear m6 p0 p1 p2 p3 px q0 q1 q2 q3 py HM2 MM2 HX HY
          refine rest_got (i := 0) (v := ?v31) rfl (by kernel_rfl) (by kernel_rfl) (by kernel_rfl) (fun _ _ _ h => h) (by rfl) ?y31 ?r31
          case y31 => (intro w9q hSwq; clear hSwq; go_simp; with_reducible rfl)
          try simp only [Act.put, List.setIfInBounds_toArray, List.set_cons_zero, List.set_cons_succ]
          refine rest_got (i := 1) (v := ?v32) rfl (by kernel_rfl) (by kernel_rfl) (by kernel_rfl) (fun _ _ _ h => h) (by rfl) ?y32 ?r32
          case y32 => ((intro w9' hm9'; have hc9' := Mod.cell hm9' A6.out (by first | exact List.not_mem_nil | assumption | (simp; done) | (simp; omega)); clear hm9'; go_simp; with_reducible rfl))
          try simp only [Act.put, List.setIfInBounds_toArray, List.set_cons_zero, List.set_cons_succ]
          refine rest_got (i := 2) (v := ?v33) rfl (by kernel_rfl) (by kernel_rfl) (by kernel_rfl) (fun _ _ _ h => h) (by rfl) ?y33 ?r33
          case y33 => (intro w9q hSwq; clear hSwq; go_simp; with_reducible rfl)
          try simp only [Act.put, List.setIfInBounds_toArray, List.set_cons_zero, List.set_cons_succ]
          refine rest_got (i := 3) (v := ?v34) rfl (by kernel_rfl) (by kernel_rfl) (by kernel_rfl) (fun _ _ _ h => h) (by rfl) ?y34 ?r34
          case y34 => (intro w9q hSwq; clear hSwq; go_simp; with_reducible rfl)
          try simp only [Act.put, List.setIfInBounds_toArray, List.set_cons_zero, List.set_cons_succ]
          refine rest_got (i := 4) (v := ?v35) rfl (by kernel_rfl) (by kernel_rfl) (by kernel_rfl) (fun _ _ _ h => h) (by rfl) ?y35 ?r35
          case y35 => (intro w9q hSwq; clear hSwq; go_simp; with_reducible rfl)
          try simp only [Act.put, List.setIfInBounds_toArray, List.set_cons_zero, List.set_cons_succ]
          refine rest_got (i := 5) (v := ?v36) rfl (by kernel_rfl) (by kernel_rfl) (by kernel_rfl) (fun _ _ _ h => h) (by rfl) ?y36 ?r36
          case y36 => ((intro w9' hm9'; have hc9' := Mod.cell hm9' P0.out (by first | exact List.not_mem_nil | assumption | (simp; done) | (simp; omega)); clear hm9'; go_simp; with_reducible rfl))
          try simp only [Act.put, List.setIfInBounds_toArray, List.set_cons_zero, List.set_cons_succ]
          refine rest_got (i := 6) (v := ?v37) rfl (by kernel_rfl) (by kernel_rfl) (by kernel_rfl) (fun _ _ _ h => h) (by rfl) ?y37 ?r37
          case y37 => (intro w9q hSwq; clear hSwq; go_simp; with_reducible rfl)
          try simp only [Act.put, List.setIfInBounds_toArray, List.set_cons_zero, List.set_cons_succ]
          refine rest_got (i := 7) (v := ?v38) rfl (by kernel_rfl) (by kernel_rfl) (by kernel_rfl) (fun _ _ _ h => h) (by rfl) ?y38 ?r38
          case y38 => ((intro w9' hm9'; have hc9' := Mod.cell hm9' B6.out (by first | exact List.not_mem_nil | assumption | (simp; done) | (simp; omega)); clear hm9'; go_simp; with_reducible rfl))
          try simp only [Act.put, List.setIfInBounds_toArray, List.set_cons_zero, List.set_cons_succ]
          refine rest_got (i := 8) (v := ?v39) rfl (by kernel_rfl) (by kernel_rfl) (by kernel_rfl) (fun _ _ _ h => h) (by rfl) ?y39 ?r39
          case y39 => (intro w9q hSwq; clear hSwq; go_simp; with_reducible rfl)
          try simp only [Act.put, List.setIfInBounds_toArray, List.set_cons_zero, List.set_cons_succ]
          refine rest_got (i := 9) (v := ?v40) rfl (by kernel_rfl) (by kernel_rfl) (by kernel_rfl) (fun _ _ _ h => h) (by rfl) ?y40 ?r40
          case y40 => (intro w9q hSwq; clear hSwq; go_simp; with_reducible rfl)
          try simp only [Act.put, List.setIfInBounds_toArray, List.set_cons_zero, List.set_cons_succ]
          refine rest_got (i := 10) (v := ?v41) rfl (by kernel_rfl) (by kernel_rfl) (by kernel_rfl) (fun _ _ _ h => h) (by rfl) ?y41 ?r41
          case y41 => (intro w9q hSwq; clear hSwq; go_simp; with_reducible rfl)
          try simp only [Act.put, List.setIfInBounds_toArray, List.set_cons_zero, List.set_cons_succ]
          refine rest_got (i := 11) (v := ?v42) rfl (by kernel_rfl) (by kernel_rfl) (by kernel_rfl) (fun _ _ _ h => h) (by rfl) ?y42 ?r42
          case y42 => ((intro w9' hm9'; have hc9' := Mod.cell hm9' Q0.out (by first | exact List.not_mem_nil | assumption | (simp; done) | (simp; omega)); clear hm9'; go_simp; with_reducible rfl))
          try simp only [Act.put, List.setIfInBounds_toArray, List.set_cons_zero, List.set_cons_succ]
          refine rest_got (i := 12) (v := ?v43) rfl (by kernel_rfl) (by kernel_rfl) (by kernel_rfl) (fun _ _ _ h => h) (by rfl) ?y43 ?r43
          case y43 => (intro w9q hSwq; clear hSwq; go_simp; with_reducible rfl)
          try simp only [Act.put, List.setIfInBounds_toArray, List.set_cons_zero, List.set_cons_succ]
          refine rest_got (i := 13) (v := ?v44) rfl (by kernel_rfl) (by kernel_rfl) (by kernel_rfl) (fun _ _ _ h => h) (by rfl) ?y44 ?r44
          case y44 => (intro w9q hSwq; clear hSwq; go_simp; with_reducible rfl)
          try simp only [Act.put, List.setIfInBounds_toArray, List.set_cons_zero, List.set_cons_succ]
          refine rest_got (i := 14) (v := ?v45) rfl (by kernel_rfl) (by kernel_rfl) (by kernel_rfl) (fun _ _ _ h => h) (by rfl) ?y45 ?r45
          case y45 => (intro w9q hSwq; clear hSwq; go_simp; with_reducible rfl)
          try simp only [Act.put, List.setIfInBounds_toArray, List.set_cons_zero, List.set_cons_succ]
          refine rest_got (i := 15) (v := ?v46) rfl (by kernel_rfl) (by kernel_rfl) (by kernel_rfl) (fun _ _ _ h => h) (by rfl) ?y46 ?r46
          case y46 => ((intro w9' hm9'; have hc9' := Mod.cell hm9' A6.out (by first | exact List.not_mem_nil | assumption | (simp; done) | (simp; omega)); clear hm9'; go_simp; with_reducible rfl))
          try simp only [Act.put, List.setIfInBounds_toArray, List.set_cons_zero, List.set_cons_succ]
          refine rest_got (i := 16) (v := ?v47) rfl (by kernel_rfl) (by kernel_rfl) (by kernel_rfl) (fun _ _ _ h => h) (by rfl) ?y47 ?r47
          case y47 => (intro w9q hSwq; clear hSwq; go_simp; with_reducible rfl)
          try simp only [Act.put, List.setIfInBounds_toArray, List.set_cons_zero, List.set_cons_succ]
          refine rest_got (i := 17) (v := ?v48) rfl (by kernel_rfl) (by kernel_rfl) (by kernel_rfl) (fun _ _ _ h => h) (by rfl) ?y48 ?r48
          case y48 => (intro w9q hSwq; clear hSwq; go_simp; with_reducible rfl)
          try simp only [Act.put, List.setIfInBounds_toArray, List.set_cons_zero, List.set_cons_succ]
          refine rest_got (i := 18) (v := ?v49) rfl (by kernel_rfl) (by kernel_rfl) (by kernel_rfl) (fun _ _ _ h => h) (by rfl) ?y49 ?r49
          case y49 => (intro w9q hSwq; clear hSwq; go_simp; with_reducible rfl)
          try simp only [Act.put, List.setIfInBounds_toArray, List.set_cons_zero, List.set_cons_succ]
          refine rest_got (i := 19) (v := ?v50) rfl (by kernel_rfl) (by kernel_rfl) (by kernel_rfl) (fun _ _ _ h => h) (by rfl) ?y50 ?r50
          case y50 => ((intro w9' hm9'; have hc9' := Mod.cell hm9' P1.out (by first | exact List.not_mem_nil | assumption | (simp; done) | (simp; omega)); have hd9' := Mod.cell hm9' P2.out (by first | exact List.not_mem_nil | assumption | (simp; done) | (simp; omega)); clear hm9'; go_simp; with_reducible rfl))
          try simp only [Act.put, List.setIfInBounds_toArray, List.set_cons_zero, List.set_cons_succ]
          refine rest_got (i := 20) (v := ?v51) rfl (by kernel_rfl) (by kernel_rfl) (by kernel_rfl) (fun _ _ _ h => h) (by rfl) ?y51 ?r51
          case y51 => (intro w9q hSwq; clear hSwq; go_simp; with_reducible rfl)
          try simp only [Act.put, List.setIfInBounds_toArray, List.set_cons_zero, List.set_cons_succ]
          refine rest_got (i := 21) (v := ?v52) rfl (by kernel_rfl) (by kernel_rfl) (by kernel_rfl) (fun _ _ _ h => h) (by rfl) ?y52 ?r52
          case y52 => ((intro w9' hm9'; have hc9' := Mod.cell hm9' B6.out (by first | exact List.not_mem_nil | assumption | (simp; done) | (simp; omega)); clear hm9'; go_simp; with_reducible rfl))
          try simp only [Act.put, List.setIfInBounds_toArray, List.set_cons_zero, List.set_cons_succ]
          refine rest_got (i := 22) (v := ?v53) rfl (by kernel_rfl) (by kernel_rfl) (by kernel_rfl) (fun _ _ _ h => h) (by rfl) ?y53 ?r53
          case y53 => (intro w9q hSwq; clear hSwq; go_simp; with_reducible rfl)
          try simp only [Act.put, List.setIfInBounds_toArray, List.set_cons_zero, List.set_cons_succ]
          refine rest_got (i := 23) (v := ?v54) rfl (by kernel_rfl) (by kernel_rfl) (by kernel_rfl) (fun _ _ _ h => h) (by rfl) ?y54 ?r54
          case y54 => (intro w9q hSwq; clear hSwq; go_simp; with_reducible rfl)
          try simp only [Act.put, List.setIfInBounds_toArray, List.set_cons_zero, List.set_cons_succ]
          refine rest_got (i := 24) (v := ?v55) rfl (by kernel_rfl) (by kernel_rfl) (by kernel_rfl) (fun _ _ _ h => h) (by rfl) ?y55 ?r55
          case y55 => (intro w9q hSwq; clear hSwq; go_simp; with_reducible rfl)
          try simp only [Act.put, List.setIfInBounds_toArray, List.set_cons_zero, List.set_cons_succ]
          refine rest_got (i := 25) (v := ?v56) rfl (by kernel_rfl) (by kernel_rfl) (by kernel_rfl) (fun _ _ _ h => h) (by rfl) ?y56 ?r56
          case y56 => ((intro w9' hm9'; have hc9' := Mod.cell hm9' Q1.out (by first | exact List.not_mem_nil | assumption | (simp; done) | (simp; omega)); have hd9' := Mod.cell hm9' Q2.out (by first | exact List.not_mem_nil | assumption | (simp; done) | (simp; omega)); clear hm9'; go_simp; with_reducible rfl))
          try simp only [Act.put, List.setIfInBounds_toArray, List.set_cons_zero, List.set_cons_succ]
          refine rest_got (i := 26) (v := ?v57) rfl (by kernel_rfl) (by kernel_rfl) (by kernel_rfl) (fun _ _ _ h => h) (by rfl) ?y57 ?r57
          case y57 => (intro w9q hSwq; clear hSwq; go_simp; with_reducible rfl)
          try simp only [Act.put, List.setIfInBounds_toArray, List.set_cons_zero, List.set_cons_succ]
          refine rest_got (i := 27) (v := ?v58) rfl (by kernel_rfl) (by kernel_rfl) (by kernel_rfl) (fun _ _ _ h => h) (by rfl) ?y58 ?r58
          case y58 => (intro w9q hSwq; clear hSwq; go_simp; with_reducible rfl)
          try simp only [Act.put, List.setIfInBounds_toArray, List.set_cons_zero, List.set_cons_succ]
          refine rest_got (i := 28) (v := ?v59) rfl (by kernel_rfl) (by kernel_rfl) (by kernel_rfl) (fun _ _ _ h => h) (by rfl) ?y59 ?r59
          case y59 => (intro w9q hSwq; clear hSwq; go_simp; with_reducible rfl)
          try simp only [Act.put, List.setIfInBounds_toArray, List.set_cons_zero, List.set_cons_succ]
          refine rest_skip (i := 29) rfl (by kernel_rfl) (by kernel_rfl) (by kernel_rfl) (fun _ _ _ h => h) (by rfl) ?_
          try simp only [Act.put, List.setIfInBounds_toArray, List.set_cons_zero, List.set_cons_succ]
          refine rest_skip (i := 30) rfl (by kernel_rfl) (by kernel_rfl) (by kernel_rfl) (fun _ _ _ h => h) (by rfl) ?_
          try simp only [Act.put, List.setIfInBounds_toArray, List.set_cons_zero, List.set_cons_succ]
          refine rest_skip (i := 31) rfl (by kernel_rfl) (by kernel_rfl) (by kernel_rfl) (fun _ _ _ h => h) (by rfl) ?_
          try simp only [Act.put, List.setIfInBounds_toArray, List.set_cons_zero, List.set_cons_succ]
          refine rest_skip (i := 32) rfl (by kernel_rfl) (by kernel_rfl) (by kernel_rfl) (fun _ _ _ h => h) (by rfl) ?_
          try simp only [Act.put, List.setIfInBounds_toArray, List.set_cons_zero, List.set_cons_succ]
          refine rest_skip (i := 33) rfl (by kernel_rfl) (by kernel_rfl) (by kernel_rfl) (fun _ _ _ h => h) (by rfl) ?_
          try simp only [Act.put, List.setIfInBounds_toArray, List.set_cons_zero, List.set_cons_succ]
          refine rest_skip (i := 34) rfl (by kernel_rfl) (by kernel_rfl) (by kernel_rfl) (fun _ _ _ h => h) (by rfl) ?_
          try simp only [Act.put, List.setIfInBounds_toArray, List.set_cons_zero, List.set_cons_succ]
          refine rest_skip (i := 35) rfl (by kernel_rfl) (by kernel_rfl) (by kernel_rfl) (fun _ _ _ h => h) (by rfl) ?_
          try simp only [Act.put, List.setIfInBounds_toArray, List.set_cons_zero, List.set_cons_succ]
          refine rest_skip (i := 36) rfl (by kernel_rfl) (by kernel_rfl) (by kernel_rfl) (fun _ _ _ h => h) (by rfl) ?_
          try simp only [Act.put, List.setIfInBounds_toArray, List.set_cons_zero, List.set_cons_succ]
          refine rest_skip (i := 37) rfl (by kernel_rfl) (by kernel_rfl) (by kernel_rfl) (fun _ _ _ h => h) (by rfl) ?_
          try simp only [Act.put, List.setIfInBounds_toArray, List.set_cons_zero, List.set_cons_succ]
          refine rest_skip (i := 38) rfl (by kernel_rfl) (by kernel_rfl) (by kernel_rfl) (fun _ _ _ h => h) (by rfl) ?_
          try simp only [Act.put, List.setIfInBounds_toArray, List.set_cons_zero, List.set_cons_succ]
          refine rest_skip (i := 39) rfl (by kernel_rfl) (by kernel_rfl) (by kernel_rfl) (fun _ _ _ h => h) (by rfl) ?_
          try simp only [Act.put, List.setIfInBounds_toArray, List.set_cons_zero, List.set_cons_succ]
          refine rest_skip (i := 40) rfl (by kernel_rfl) (by kernel_rfl) (by kernel_rfl) (fun _ _ _ h => h) (by rfl) ?_
          try simp only [Act.put, List.setIfInBounds_toArray, List.set_cons_zero, List.set_cons_succ]
          refine rest_skip (i := 41) rfl (by kernel_rfl) (by kernel_rfl) (by kernel_rfl) (fun _ _ _ h => h) (by rfl) ?_
          try simp only [Act.put, List.setIfInBounds_toArray, List.set_cons_zero, List.set_cons_succ]
          refine rest_skip (i := 42) rfl (by kernel_rfl) (by kernel_rfl) (by kernel_rfl) (fun _ _ _ h => h) (by rfl) ?_
          try simp only [Act.put, List.setIfInBounds_toArray, List.set_cons_zero, List.set_cons_succ]
          refine rest_skip (i := 43) rfl (by kernel_rfl) (by kernel_rfl) (by kernel_rfl) (fun _ _ _ h => h) (by rfl) ?_
          try simp only [Act.put, List.setIfInBounds_toArray, List.set_cons_zero, List.set_cons_succ]
          refine rest_got (i := 44) (v := ?v60) rfl (by kernel_rfl) (by kernel_rfl) (by kernel_rfl) (fun _ _ _ h => h) (by rfl) ?y60 ?r60
          case y60 => (intro w9q hSwq; clear hSwq; go_simp; with_reducible rfl)
          try simp only [Act.put, List.setIfInBounds_toArray, List.set_cons_zero, List.set_cons_succ]
          refine rest_done (by kernel_rfl) ?_ _
          go_wp2_with fail
          go_ret
          exact ⟨by rw [HH.out]; rfl, MM6.out⟩
        subst e1
        by_cases e1 : r1 = r1'
        case neg =>
          have D : (r1 != r1') = true := by simp; omega
          have D3 : (r1 = r1') = False := by simp; omega
          have HH : Hid (q = false) := Lib.hid (HNO.out (fun h => e1 (HST.out.1 h).1.2.2))
          clear e1 HQ HST HNO
          refine rest_start [] 45 #[false, false, false, false, false, false, false, false, false, false, false, false, false, false, false, false, false, false, false, false, false, false, false, false, false, false, false, false, false, false, false, false, false, false, false, false, false, false, false, false, false, false, false, false, false] rfl (by kernel_rfl) (by kernel_rfl) ?_
          intro w6 m6
          obtain ⟨p0, p1, p2, p3, px⟩ := HX.out w6 (HM2.out.trans' m6)
          obtain ⟨q0, q1, q2, q3, py⟩ := HY.out w6 (HM2.out.trans' m6)
          have A6 := Lib.hid (cell_of_block (i := 6) (m6.get HBAs.out List.not_mem_nil))
          have B6 := Lib.hid (cell_of_block (i := 6) (m6.get HBBs.out List.not_mem_nil))
          have P0 := Lib.hid p0
          have P1 := Lib.hid p1
          have P2 := Lib.hid p2
          have P3 := Lib.hid p3
          have Q0 := Lib.hid q0
          have Q1 := Lib.hid q1
          have Q2 := Lib.hid q2
          have Q3 := Lib.hid q3
          have PX := Lib.hid px
          have PY := Lib.hid py
          have HM6 := Lib.hid (HM2.out.trans' m6)
          have MM6 := Lib.hid (MM2.out.trans' m6)
          clear m6 p0 p1 p2 p3 px q0 q1 q2 q3 py HM2 MM2 HX HY
          refine rest_got (i := 0) (v := ?v61) rfl (by kernel_rfl) (by kernel_rfl) (by kernel_rfl) (fun _ _ _ h => h) (by rfl) ?y61 ?r61
          case y61 => (intro w9q hSwq; clear hSwq; go_simp; with_reducible rfl)
          try simp only [Act.put, List.setIfInBounds_toArray, List.set_cons_zero, List.set_cons_succ]
          refine rest_got (i := 1) (v := ?v62) rfl (by kernel_rfl) (by kernel_rfl) (by kernel_rfl) (fun _ _ _ h => h) (by rfl) ?y62 ?r62
          case y62 => ((intro w9' hm9'; have hc9' := Mod.cell hm9' A6.out (by first | exact List.not_mem_nil | assumption | (simp; done) | (simp; omega)); clear hm9'; go_simp; with_reducible rfl))
          try simp only [Act.put, List.setIfInBounds_toArray, List.set_cons_zero, List.set_cons_succ]
          refine rest_got (i := 2) (v := ?v63) rfl (by kernel_rfl) (by kernel_rfl) (by kernel_rfl) (fun _ _ _ h => h) (by rfl) ?y63 ?r63
          case y63 => (intro w9q hSwq; clear hSwq; go_simp; with_reducible rfl)
          try simp only [Act.put, List.setIfInBounds_toArray, List.set_cons_zero, List.set_cons_succ]
          refine rest_got (i := 3) (v := ?v64) rfl (by kernel_rfl) (by kernel_rfl) (by kernel_rfl) (fun _ _ _ h => h) (by rfl) ?y64 ?r64
          case y64 => (intro w9q hSwq; clear hSwq; go_simp; with_reducible rfl)
          try simp only [Act.put, List.setIfInBounds_toArray, List.set_cons_zero, List.set_cons_succ]
          refine rest_got (i := 4) (v := ?v65) rfl (by kernel_rfl) (by kernel_rfl) (by kernel_rfl) (fun _ _ _ h => h) (by rfl) ?y65 ?r65
          case y65 => (intro w9q hSwq; clear hSwq; go_simp; with_reducible rfl)
          try simp only [Act.put, List.setIfInBounds_toArray, List.set_cons_zero, List.set_cons_succ]
          refine rest_got (i := 5) (v := ?v66) rfl (by kernel_rfl) (by kernel_rfl) (by kernel_rfl) (fun _ _ _ h => h) (by rfl) ?y66 ?r66
          case y66 => ((intro w9' hm9'; have hc9' := Mod.cell hm9' P0.out (by first | exact List.not_mem_nil | assumption | (simp; done) | (simp; omega)); clear hm9'; go_simp; with_reducible rfl))
          try simp only [Act.put, List.setIfInBounds_toArray, List.set_cons_zero, List.set_cons_succ]
          refine rest_got (i := 6) (v := ?v67) rfl (by kernel_rfl) (by kernel_rfl) (by kernel_rfl) (fun _ _ _ h => h) (by rfl) ?y67 ?r67
          case y67 => (intro w9q hSwq; clear hSwq; go_simp; with_reducible rfl)
          try simp only [Act.put, List.setIfInBounds_toArray, List.set_cons_zero, List.set_cons_succ]
          refine rest_got (i := 7) (v := ?v68) rfl (by kernel_rfl) (by kernel_rfl) (by kernel_rfl) (fun _ _ _ h => h) (by rfl) ?y68 ?r68
          case y68 => ((intro w9' hm9'; have hc9' := Mod.cell hm9' B6.out (by first | exact List.not_mem_nil | assumption | (simp; done) | (simp; omega)); clear hm9'; go_simp; with_reducible rfl))
          try simp only [Act.put, List.setIfInBounds_toArray, List.set_cons_zero, List.set_cons_succ]
          refine rest_got (i := 8) (v := ?v69) rfl (by kernel_rfl) (by kernel_rfl) (by kernel_rfl) (fun _ _ _ h => h) (by rfl) ?y69 ?r69
          case y69 => (intro w9q hSwq; clear hSwq; go_simp; with_reducible rfl)
          try simp only [Act.put, List.setIfInBounds_toArray, List.set_cons_zero, List.set_cons_succ]
          refine rest_got (i := 9) (v := ?v70) rfl (by kernel_rfl) (by kernel_rfl) (by kernel_rfl) (fun _ _ _ h => h) (by rfl) ?y70 ?r70
          case y70 => (intro w9q hSwq; clear hSwq; go_simp; with_reducible rfl)
          try simp only [Act.put, List.setIfInBounds_toArray, List.set_cons_zero, List.set_cons_succ]
          refine rest_got (i := 10) (v := ?v71) rfl (by kernel_rfl) (by kernel_rfl) (by kernel_rfl) (fun _ _ _ h => h) (by rfl) ?y71 ?r71
          case y71 => (intro w9q hSwq; clear hSwq; go_simp; with_reducible rfl)
          try simp only [Act.put, List.setIfInBounds_toArray, List.set_cons_zero, List.set_cons_succ]
          refine rest_got (i := 11) (v := ?v72) rfl (by kernel_rfl) (by kernel_rfl) (by kernel_rfl) (fun _ _ _ h => h) (by rfl) ?y72 ?r72
          case y72 => ((intro w9' hm9'; have hc9' := Mod.cell hm9' Q0.out (by first | exact List.not_mem_nil | assumption | (simp; done) | (simp; omega)); clear hm9'; go_simp; with_reducible rfl))
          try simp only [Act.put, List.setIfInBounds_toArray, List.set_cons_zero, List.set_cons_succ]
          refine rest_got (i := 12) (v := ?v73) rfl (by kernel_rfl) (by kernel_rfl) (by kernel_rfl) (fun _ _ _ h => h) (by rfl) ?y73 ?r73
          case y73 => (intro w9q hSwq; clear hSwq; go_simp; with_reducible rfl)
          try simp only [Act.put, List.setIfInBounds_toArray, List.set_cons_zero, List.set_cons_succ]
          refine rest_got (i := 13) (v := ?v74) rfl (by kernel_rfl) (by kernel_rfl) (by kernel_rfl) (fun _ _ _ h => h) (by rfl) ?y74 ?r74
          case y74 => (intro w9q hSwq; clear hSwq; go_simp; with_reducible rfl)
          try simp only [Act.put, List.setIfInBounds_toArray, List.set_cons_zero, List.set_cons_succ]
          refine rest_got (i := 14) (v := ?v75) rfl (by kernel_rfl) (by kernel_rfl) (by kernel_rfl) (fun _ _ _ h => h) (by rfl) ?y75 ?r75
          case y75 => (intro w9q hSwq; clear hSwq; go_simp; with_reducible rfl)
          try simp only [Act.put, List.setIfInBounds_toArray, List.set_cons_zero, List.set_cons_succ]
          refine rest_got (i := 15) (v := ?v76) rfl (by kernel_rfl) (by kernel_rfl) (by kernel_rfl) (fun _ _ _ h => h) (by rfl) ?y76 ?r76
          case y76 => ((intro w9' hm9'; have hc9' := Mod.cell hm9' A6.out (by first | exact List.not_mem_nil | assumption | (simp; done) | (simp; omega)); clear hm9'; go_simp; with_reducible rfl))
          try simp only [Act.put, List.setIfInBounds_toArray, List.set_cons_zero, List.set_cons_succ]
          refine rest_got (i := 16) (v := ?v77) rfl (by kernel_rfl) (by kernel_rfl) (by kernel_rfl) (fun _ _ _ h => h) (by rfl) ?y77 ?r77
          case y77 => (intro w9q hSwq; clear hSwq; go_simp; with_reducible rfl)
          try simp only [Act.put, List.setIfInBounds_toArray, List.set_cons_zero, List.set_cons_succ]
          refine rest_got (i := 17) (v := ?v78) rfl (by kernel_rfl) (by kernel_rfl) (by kernel_rfl) (fun _ _ _ h => h) (by rfl) ?y78 ?r78
          case y78 => (intro w9q hSwq; clear hSwq; go_simp; with_reducible rfl)
          try simp only [Act.put, List.setIfInBounds_toArray, List.set_cons_zero, List.set_cons_succ]
          refine rest_got (i := 18) (v := ?v79) rfl (by kernel_rfl) (by kernel_rfl) (by kernel_rfl) (fun _ _ _ h => h) (by rfl) ?y79 ?r79
          case y79 => (intro w9q hSwq; clear hSwq; go_simp; with_reducible rfl)
          try simp only [Act.put, List.setIfInBounds_toArray, List.set_cons_zero, List.set_cons_succ]
          refine rest_got (i := 19) (v := ?v80) rfl (by kernel_rfl) (by kernel_rfl) (by kernel_rfl) (fun _ _ _ h => h) (by rfl) ?y80 ?r80
          case y80 => ((intro w9' hm9'; have hc9' := Mod.cell hm9' P1.out (by first | exact List.not_mem_nil | assumption | (simp; done) | (simp; omega)); have hd9' := Mod.cell hm9' P2.out (by first | exact List.not_mem_nil | assumption | (simp; done) | (simp; omega)); clear hm9'; go_simp; with_reducible rfl))
          try simp only [Act.put, List.setIfInBounds_toArray, List.set_cons_zero, List.set_cons_succ]
          refine rest_got (i := 20) (v := ?v81) rfl (by kernel_rfl) (by kernel_rfl) (by kernel_rfl) (fun _ _ _ h => h) (by rfl) ?y81 ?r81
          case y81 => (intro w9q hSwq; clear hSwq; go_simp; with_reducible rfl)
          try simp only [Act.put, List.setIfInBounds_toArray, List.set_cons_zero, List.set_cons_succ]
          refine rest_got (i := 21) (v := ?v82) rfl (by kernel_rfl) (by kernel_rfl) (by kernel_rfl) (fun _ _ _ h => h) (by rfl) ?y82 ?r82
          case y82 => ((intro w9' hm9'; have hc9' := Mod.cell hm9' B6.out (by first | exact List.not_mem_nil | assumption | (simp; done) | (simp; omega)); clear hm9'; go_simp; with_reducible rfl))
          try simp only [Act.put, List.setIfInBounds_toArray, List.set_cons_zero, List.set_cons_succ]
          refine rest_got (i := 22) (v := ?v83) rfl (by kernel_rfl) (by kernel_rfl) (by kernel_rfl) (fun _ _ _ h => h) (by rfl) ?y83 ?r83
          case y83 => (intro w9q hSwq; clear hSwq; go_simp; with_reducible rfl)
          try simp only [Act.put, List.setIfInBounds_toArray, List.set_cons_zero, List.set_cons_succ]
          refine rest_got (i := 23) (v := ?v84) rfl (by kernel_rfl) (by kernel_rfl) (by kernel_rfl) (fun _ _ _ h => h) (by rfl) ?y84 ?r84
          case y84 => (intro w9q hSwq; clear hSwq; go_simp; with_reducible rfl)
          try simp only [Act.put, List.setIfInBounds_toArray, List.set_cons_zero, List.set_cons_succ]
          refine rest_got (i := 24) (v := ?v85) rfl (by kernel_rfl) (by kernel_rfl) (by kernel_rfl) (fun _ _ _ h => h) (by rfl) ?y85 ?r85
          case y85 => (intro w9q hSwq; clear hSwq; go_simp; with_reducible rfl)
          try simp only [Act.put, List.setIfInBounds_toArray, List.set_cons_zero, List.set_cons_succ]
          refine rest_got (i := 25) (v := ?v86) rfl (by kernel_rfl) (by kernel_rfl) (by kernel_rfl) (fun _ _ _ h => h) (by rfl) ?y86 ?r86
          case y86 => ((intro w9' hm9'; have hc9' := Mod.cell hm9' Q1.out (by first | exact List.not_mem_nil | assumption | (simp; done) | (simp; omega)); have hd9' := Mod.cell hm9' Q2.out (by first | exact List.not_mem_nil | assumption | (simp; done) | (simp; omega)); clear hm9'; go_simp; with_reducible rfl))
          try simp only [Act.put, List.setIfInBounds_toArray, List.set_cons_zero, List.set_cons_succ]
          refine rest_got (i := 26) (v := ?v87) rfl (by kernel_rfl) (by kernel_rfl) (by kernel_rfl) (fun _ _ _ h => h) (by rfl) ?y87 ?r87
          case y87 => (intro w9q hSwq; clear hSwq; go_simp; with_reducible rfl)
          try simp only [Act.put, List.setIfInBounds_toArray, List.set_cons_zero, List.set_cons_succ]
          refine rest_got (i := 27) (v := ?v88) rfl (by kernel_rfl) (by kernel_rfl) (by kernel_rfl) (fun _ _ _ h => h) (by rfl) ?y88 ?r88
          case y88 => (intro w9q hSwq; clear hSwq; go_simp; with_reducible rfl)
          try simp only [Act.put, List.setIfInBounds_toArray, List.set_cons_zero, List.set_cons_succ]
          refine rest_got (i := 28) (v := ?v89) rfl (by kernel_rfl) (by kernel_rfl) (by kernel_rfl) (fun _ _ _ h => h) (by rfl) ?y89 ?r89
          case y89 => (intro w9q hSwq; clear hSwq; go_simp; with_reducible rfl)
          try simp only [Act.put, List.setIfInBounds_toArray, List.set_cons_zero, List.set_cons_succ]
          refine rest_skip (i := 29) rfl (by kernel_rfl) (by kernel_rfl) (by kernel_rfl) (fun _ _ _ h => h) (by rfl) ?_
          try simp only [Act.put, List.setIfInBounds_toArray, List.set_cons_zero, List.set_cons_succ]
          refine rest_skip (i := 30) rfl (by kernel_rfl) (by kernel_rfl) (by kernel_rfl) (fun _ _ _ h => h) (by rfl) ?_
          try simp only [Act.put, List.setIfInBounds_toArray, List.set_cons_zero, List.set_cons_succ]
          refine rest_skip (i := 31) rfl (by kernel_rfl) (by kernel_rfl) (by kernel_rfl) (fun _ _ _ h => h) (by rfl) ?_
          try simp only [Act.put, List.setIfInBounds_toArray, List.set_cons_zero, List.set_cons_succ]
          refine rest_skip (i := 32) rfl (by kernel_rfl) (by kernel_rfl) (by kernel_rfl) (fun _ _ _ h => h) (by rfl) ?_
          try simp only [Act.put, List.setIfInBounds_toArray, List.set_cons_zero, List.set_cons_succ]
          refine rest_skip (i := 33) rfl (by kernel_rfl) (by kernel_rfl) (by kernel_rfl) (fun _ _ _ h => h) (by rfl) ?_
          try simp only [Act.put, List.setIfInBounds_toArray, List.set_cons_zero, List.set_cons_succ]
          refine rest_skip (i := 34) rfl (by kernel_rfl) (by kernel_rfl) (by kernel_rfl) (fun _ _ _ h => h) (by rfl) ?_
          try simp only [Act.put, List.setIfInBounds_toArray, List.set_cons_zero, List.set_cons_succ]
          refine rest_skip (i := 35) rfl (by kernel_rfl) (by kernel_rfl) (by kernel_rfl) (fun _ _ _ h => h) (by rfl) ?_
          try simp only [Act.put, List.setIfInBounds_toArray, List.set_cons_zero, List.set_cons_succ]
          refine rest_skip (i := 36) rfl (by kernel_rfl) (by kernel_rfl) (by kernel_rfl) (fun _ _ _ h => h) (by rfl) ?_
          try simp only [Act.put, List.setIfInBounds_toArray, List.set_cons_zero, List.set_cons_succ]
          refine rest_skip (i := 37) rfl (by kernel_rfl) (by kernel_rfl) (by kernel_rfl) (fun _ _ _ h => h) (by rfl) ?_
          try simp only [Act.put, List.setIfInBounds_toArray, List.set_cons_zero, List.set_cons_succ]
          refine rest_skip (i := 38) rfl (by kernel_rfl) (by kernel_rfl) (by kernel_rfl) (fun _ _ _ h => h) (by rfl) ?_
          try simp only [Act.put, List.setIfInBounds_toArray, List.set_cons_zero, List.set_cons_succ]
          refine rest_skip (i := 39) rfl (by kernel_rfl) (by kernel_rfl) (by kernel_rfl) (fun _ _ _ h => h) (by rfl) ?_
          try simp only [Act.put, List.setIfInBounds_toArray, List.set_cons_zero, List.set_cons_succ]
          refine rest_skip (i := 40) rfl (by kernel_rfl) (by kernel_rfl) (by kernel_rfl) (fun _ _ _ h => h) (by rfl) ?_
          try simp only [Act.put, List.setIfInBounds_toArray, List.set_cons_zero, List.set_cons_succ]
          refine rest_skip (i := 41) rfl (by kernel_rfl) (by kernel_rfl) (by kernel_rfl) (fun _ _ _ h => h) (by rfl) ?_
          try simp only [Act.put, List.setIfInBounds_toArray, List.set_cons_zero, List.set_cons_succ]
          refine rest_skip (i := 42) rfl (by kernel_rfl) (by kernel_rfl) (by kernel_rfl) (fun _ _ _ h => h) (by rfl) ?_
          try simp only [Act.put, List.setIfInBounds_toArray, List.set_cons_zero, List.set_cons_succ]
          refine rest_skip (i := 43) rfl (by kernel_rfl) (by kernel_rfl) (by kernel_rfl) (fun _ _ _ h => h) (by rfl) ?_
          try simp only [Act.put, List.setIfInBounds_toArray, List.set_cons_zero, List.set_cons_succ]
          refine rest_got (i := 44) (v := ?v90) rfl (by kernel_rfl) (by kernel_rfl) (by kernel_rfl) (fun _ _ _ h => h) (by rfl) ?y90 ?r90
          case y90 => (intro w9q hSwq; clear hSwq; go_simp; with_reducible rfl)
          try simp only [Act.put, List.setIfInBounds_toArray, List.set_cons_zero, List.set_cons_succ]
          refine rest_done (by kernel_rfl) ?_ _
          go_wp2_with fail
          go_ret
          exact ⟨by rw [HH.out]; rfl, MM6.out⟩
        subst e1
        clear DQ
        obtain ⟨qe, hqe⟩ : ∃ t, decide (x = y) = t := ⟨_, rfl⟩
        have HQE : Hid (qe = true ↔ x = y) := Lib.hid (by rw [← hqe]; simp)
        have DQ := Lib.hid hqe
        clear hqe
        refine rest_start [] 45 #[false, false, false, false, false, false, false, false, false, false, false, false, false, false, false, false, false, false, false, false, false, false, false, false, false, false, false, false, false, false, false, false, false, false, false, false, false, false, false, false, false, false, false, false, false] rfl (by kernel_rfl) (by kernel_rfl) ?_
        intro w6 m6
        obtain ⟨p0, p1, p2, p3, px⟩ := HX.out w6 (HM2.out.trans' m6)
        obtain ⟨q0, q1, q2, q3, py⟩ := HY.out w6 (HM2.out.trans' m6)
        have A6 := Lib.hid (cell_of_block (i := 6) (m6.get HBAs.out List.not_mem_nil))
        have B6 := Lib.hid (cell_of_block (i := 6) (m6.get HBBs.out List.not_mem_nil))
        have P0 := Lib.hid p0
        have P1 := Lib.hid p1
        have P2 := Lib.hid p2
        have P3 := Lib.hid p3
        have Q0 := Lib.hid q0
        have Q1 := Lib.hid q1
        have Q2 := Lib.hid q2
        have Q3 := Lib.hid q3
        have PX := Lib.hid px
        have PY := Lib.hid py
        have HM6 := Lib.hid (HM2.out.trans' m6)
        have MM6 := Lib.hid (MM2.out.trans' m6)
        clear m6 p0 p1 p2 p3 px q0 q1 q2 q3 py HM2 MM2 HX HY
        refine rest_got (i := 0) (v := ?v91) rfl (by kernel_rfl) (by kernel_rfl) (by kernel_rfl) (fun _ _ _ h => h) (by rfl) ?y91 ?r91
        case y91 => (intro w9q hSwq; clear hSwq; go_simp; with_reducible rfl)
        try simp only [Act.put, List.setIfInBounds_toArray, List.set_cons_zero, List.set_cons_succ]
        refine rest_got (i := 1) (v := ?v92) rfl (by kernel_rfl) (by kernel_rfl) (by kernel_rfl) (fun _ _ _ h => h) (by rfl) ?y92 ?r92
        case y92 => ((intro w9' hm9'; have hc9' := Mod.cell hm9' A6.out (by first | exact List.not_mem_nil | assumption | (simp; done) | (simp; omega)); clear hm9'; go_simp; with_reducible rfl))
        try simp only [Act.put, List.setIfInBounds_toArray, List.set_cons_zero, List.set_cons_succ]
        refine rest_got (i := 2) (v := ?v93) rfl (by kernel_rfl) (by kernel_rfl) (by kernel_rfl) (fun _ _ _ h => h) (by rfl) ?y93 ?r93
        case y93 => (intro w9q hSwq; clear hSwq; go_simp; with_reducible rfl)
        try simp only [Act.put, List.setIfInBounds_toArray, List.set_cons_zero, List.set_cons_succ]
        refine rest_got (i := 3) (v := ?v94) rfl (by kernel_rfl) (by kernel_rfl) (by kernel_rfl) (fun _ _ _ h => h) (by rfl) ?y94 ?r94
        case y94 => (intro w9q hSwq; clear hSwq; go_simp; with_reducible rfl)
        try simp only [Act.put, List.setIfInBounds_toArray, List.set_cons_zero, List.set_cons_succ]
        refine rest_got (i := 4) (v := ?v95) rfl (by kernel_rfl) (by kernel_rfl) (by kernel_rfl) (fun _ _ _ h => h) (by rfl) ?y95 ?r95
        case y95 => (intro w9q hSwq; clear hSwq; go_simp; with_reducible rfl)
        try simp only [Act.put, List.setIfInBounds_toArray, List.set_cons_zero, List.set_cons_succ]
        refine rest_got (i := 5) (v := ?v96) rfl (by kernel_rfl) (by kernel_rfl) (by kernel_rfl) (fun _ _ _ h => h) (by rfl) ?y96 ?r96
        case y96 => ((intro w9' hm9'; have hc9' := Mod.cell hm9' P0.out (by first | exact List.not_mem_nil | assumption | (simp; done) | (simp; omega)); clear hm9'; go_simp; with_reducible rfl))
        try simp only [Act.put, List.setIfInBounds_toArray, List.set_cons_zero, List.set_cons_succ]
        refine rest_got (i := 6) (v := ?v97) rfl (by kernel_rfl) (by kernel_rfl) (by kernel_rfl) (fun _ _ _ h => h) (by rfl) ?y97 ?r97
        case y97 => (intro w9q hSwq; clear hSwq; go_simp; with_reducible rfl)
        try simp only [Act.put, List.setIfInBounds_toArray, List.set_cons_zero, List.set_cons_succ]
        refine rest_got (i := 7) (v := ?v98) rfl (by kernel_rfl) (by kernel_rfl) (by kernel_rfl) (fun _ _ _ h => h) (by rfl) ?y98 ?r98
        case y98 => ((intro w9' hm9'; have hc9' := Mod.cell hm9' B6.out (by first | exact List.not_mem_nil | assumption | (simp; done) | (simp; omega)); clear hm9'; go_simp; with_reducible rfl))
        try simp only [Act.put, List.setIfInBounds_toArray, List.set_cons_zero, List.set_cons_succ]
        refine rest_got (i := 8) (v := ?v99) rfl (by kernel_rfl) (by kernel_rfl) (by kernel_rfl) (fun _ _ _ h => h) (by rfl) ?y99 ?r99
        case y99 => (intro w9q hSwq; clear hSwq; go_simp; with_reducible rfl)
        try simp only [Act.put, List.setIfInBounds_toArray, List.set_cons_zero, List.set_cons_succ]
        refine rest_got (i := 9) (v := ?v100) rfl (by kernel_rfl) (by kernel_rfl) (by kernel_rfl) (fun _ _ _ h => h) (by rfl) ?y100 ?r100
        case y100 => (intro w9q hSwq; clear hSwq; go_simp; with_reducible rfl)
        try simp only [Act.put, List.setIfInBounds_toArray, List.set_cons_zero, List.set_cons_succ]
        refine rest_got (i := 10) (v := ?v101) rfl (by kernel_rfl) (by kernel_rfl) (by kernel_rfl) (fun _ _ _ h => h) (by rfl) ?y101 ?r101
        case y101 => (intro w9q hSwq; clear hSwq; go_simp; with_reducible rfl)
        try simp only [Act.put, List.setIfInBounds_toArray, List.set_cons_zero, List.set_cons_succ]
        refine rest_got (i := 11) (v := ?v102) rfl (by kernel_rfl) (by kernel_rfl) (by kernel_rfl) (fun _ _ _ h => h) (by rfl) ?y102 ?r102
        case y102 => ((intro w9' hm9'; have hc9' := Mod.cell hm9' Q0.out (by first | exact List.not_mem_nil | assumption | (simp; done) | (simp; omega)); clear hm9'; go_simp; with_reducible rfl))
        try simp only [Act.put, List.setIfInBounds_toArray, List.set_cons_zero, List.set_cons_succ]
        refine rest_got (i := 12) (v := ?v103) rfl (by kernel_rfl) (by kernel_rfl) (by kernel_rfl) (fun _ _ _ h => h) (by rfl) ?y103 ?r103
        case y103 => (intro w9q hSwq; clear hSwq; go_simp; with_reducible rfl)
        try simp only [Act.put, List.setIfInBounds_toArray, List.set_cons_zero, List.set_cons_succ]
        refine rest_got (i := 13) (v := ?v104) rfl (by kernel_rfl) (by kernel_rfl) (by kernel_rfl) (fun _ _ _ h => h) (by rfl) ?y104 ?r104
        case y104 => (intro w9q hSwq; clear hSwq; go_simp; with_reducible rfl)
        try simp only [Act.put, List.setIfInBounds_toArray, List.set_cons_zero, List.set_cons_succ]
        refine rest_got (i := 14) (v := ?v105) rfl (by kernel_rfl) (by kernel_rfl) (by kernel_rfl) (fun _ _ _ h => h) (by rfl) ?y105 ?r105
        case y105 => (intro w9q hSwq; clear hSwq; go_simp; with_reducible rfl)
        try simp only [Act.put, List.setIfInBounds_toArray, List.set_cons_zero, List.set_cons_succ]
        refine rest_got (i := 15) (v := ?v106) rfl (by kernel_rfl) (by kernel_rfl) (by kernel_rfl) (fun _ _ _ h => h) (by rfl) ?y106 ?r106
        case y106 => ((intro w9' hm9'; have hc9' := Mod.cell hm9' A6.out (by first | exact List.not_mem_nil | assumption | (simp; done) | (simp; omega)); clear hm9'; go_simp; with_reducible rfl))
        try simp only [Act.put, List.setIfInBounds_toArray, List.set_cons_zero, List.set_cons_succ]
        refine rest_got (i := 16) (v := ?v107) rfl (by kernel_rfl) (by kernel_rfl) (by kernel_rfl) (fun _ _ _ h => h) (by rfl) ?y107 ?r107
        case y107 => (intro w9q hSwq; clear hSwq; go_simp; with_reducible rfl)
        try simp only [Act.put, List.setIfInBounds_toArray, List.set_cons_zero, List.set_cons_succ]
        refine rest_got (i := 17) (v := ?v108) rfl (by kernel_rfl) (by kernel_rfl) (by kernel_rfl) (fun _ _ _ h => h) (by rfl) ?y108 ?r108
        case y108 => (intro w9q hSwq; clear hSwq; go_simp; with_reducible rfl)
        try simp only [Act.put, List.setIfInBounds_toArray, List.set_cons_zero, List.set_cons_succ]
        refine rest_got (i := 18) (v := ?v109) rfl (by kernel_rfl) (by kernel_rfl) (by kernel_rfl) (fun _ _ _ h => h) (by rfl) ?y109 ?r109
        case y109 => (intro w9q hSwq; clear hSwq; go_simp; with_reducible rfl)
        try simp only [Act.put, List.setIfInBounds_toArray, List.set_cons_zero, List.set_cons_succ]
        refine rest_got (i := 19) (v := ?v110) rfl (by kernel_rfl) (by kernel_rfl) (by kernel_rfl) (fun _ _ _ h => h) (by rfl) ?y110 ?r110
        case y110 => ((intro w9' hm9'; have hc9' := Mod.cell hm9' P1.out (by first | exact List.not_mem_nil | assumption | (simp; done) | (simp; omega)); have hd9' := Mod.cell hm9' P2.out (by first | exact List.not_mem_nil | assumption | (simp; done) | (simp; omega)); clear hm9'; go_simp; with_reducible rfl))
        try simp only [Act.put, List.setIfInBounds_toArray, List.set_cons_zero, List.set_cons_succ]
        refine rest_got (i := 20) (v := ?v111) rfl (by kernel_rfl) (by kernel_rfl) (by kernel_rfl) (fun _ _ _ h => h) (by rfl) ?y111 ?r111
        case y111 => (intro w9q hSwq; clear hSwq; go_simp; with_reducible rfl)
        try simp only [Act.put, List.setIfInBounds_toArray, List.set_cons_zero, List.set_cons_succ]
        refine rest_got (i := 21) (v := ?v112) rfl (by kernel_rfl) (by kernel_rfl) (by kernel_rfl) (fun _ _ _ h => h) (by rfl) ?y112 ?r112
        case y112 => ((intro w9' hm9'; have hc9' := Mod.cell hm9' B6.out (by first | exact List.not_mem_nil | assumption | (simp; done) | (simp; omega)); clear hm9'; go_simp; with_reducible rfl))
        try simp only [Act.put, List.setIfInBounds_toArray, List.set_cons_zero, List.set_cons_succ]
        refine rest_got (i := 22) (v := ?v113) rfl (by kernel_rfl) (by kernel_rfl) (by kernel_rfl) (fun _ _ _ h => h) (by rfl) ?y113 ?r113
        case y113 => (intro w9q hSwq; clear hSwq; go_simp; with_reducible rfl)
        try simp only [Act.put, List.setIfInBounds_toArray, List.set_cons_zero, List.set_cons_succ]
        refine rest_got (i := 23) (v := ?v114) rfl (by kernel_rfl) (by kernel_rfl) (by kernel_rfl) (fun _ _ _ h => h) (by rfl) ?y114 ?r114
        case y114 => (intro w9q hSwq; clear hSwq; go_simp; with_reducible rfl)
        try simp only [Act.put, List.setIfInBounds_toArray, List.set_cons_zero, List.set_cons_succ]
        refine rest_got (i := 24) (v := ?v115) rfl (by kernel_rfl) (by kernel_rfl) (by kernel_rfl) (fun _ _ _ h => h) (by rfl) ?y115 ?r115
        case y115 => (intro w9q hSwq; clear hSwq; go_simp; with_reducible rfl)
        try simp only [Act.put, List.setIfInBounds_toArray, List.set_cons_zero, List.set_cons_succ]
        refine rest_got (i := 25) (v := ?v116) rfl (by kernel_rfl) (by kernel_rfl) (by kernel_rfl) (fun _ _ _ h => h) (by rfl) ?y116 ?r116
        case y116 => ((intro w9' hm9'; have hc9' := Mod.cell hm9' Q1.out (by first | exact List.not_mem_nil | assumption | (simp; done) | (simp; omega)); have hd9' := Mod.cell hm9' Q2.out (by first | exact List.not_mem_nil | assumption | (simp; done) | (simp; omega)); clear hm9'; go_simp; with_reducible rfl))
        try simp only [Act.put, List.setIfInBounds_toArray, List.set_cons_zero, List.set_cons_succ]
        refine rest_got (i := 26) (v := ?v117) rfl (by kernel_rfl) (by kernel_rfl) (by kernel_rfl) (fun _ _ _ h => h) (by rfl) ?y117 ?r117
        case y117 => (intro w9q hSwq; clear hSwq; go_simp; with_reducible rfl)
        try simp only [Act.put, List.setIfInBounds_toArray, List.set_cons_zero, List.set_cons_succ]
        refine rest_got (i := 27) (v := ?v118) rfl (by kernel_rfl) (by kernel_rfl) (by kernel_rfl) (fun _ _ _ h => h) (by rfl) ?y118 ?r118
        case y118 => (intro w9q hSwq; clear hSwq; go_simp; with_reducible rfl)
        try simp only [Act.put, List.setIfInBounds_toArray, List.set_cons_zero, List.set_cons_succ]
        refine rest_got (i := 28) (v := ?v119) rfl (by kernel_rfl) (by kernel_rfl) (by kernel_rfl) (fun _ _ _ h => h) (by rfl) ?y119 ?r119
        case y119 => (intro w9q hSwq; clear hSwq; go_simp; with_reducible rfl)
        try simp only [Act.put, List.setIfInBounds_toArray, List.set_cons_zero, List.set_cons_succ]
        refine rest_got (i := 29) (v := ?v120) rfl (by kernel_rfl) (by kernel_rfl) (by kernel_rfl) (fun _ _ _ h => h) (by rfl) ?y120 ?r120
        case y120 => (intro w9q hSwq; clear hSwq; go_simp; with_reducible rfl)
        try simp only [Act.put, List.setIfInBounds_toArray, List.set_cons_zero, List.set_cons_succ]
        refine rest_got (i := 30) (v := ?v121) rfl (by kernel_rfl) (by kernel_rfl) (by kernel_rfl) (fun _ _ _ h => h) (by rfl) ?y121 ?r121
        case y121 => ((intro w9' hm9'; have hc9' := Mod.cell hm9' A6.out (by first | exact List.not_mem_nil | assumption | (simp; done) | (simp; omega)); clear hm9'; go_simp; with_reducible rfl))
        try simp only [Act.put, List.setIfInBounds_toArray, List.set_cons_zero, List.set_cons_succ]
        refine rest_got (i := 31) (v := ?v122) rfl (by kernel_rfl) (by kernel_rfl) (by kernel_rfl) (fun _ _ _ h => h) (by rfl) ?y122 ?r122
        case y122 => (intro w9q hSwq; clear hSwq; go_simp; with_reducible rfl)
        try simp only [Act.put, List.setIfInBounds_toArray, List.set_cons_zero, List.set_cons_succ]
        refine rest_got (i := 32) (v := ?v123) rfl (by kernel_rfl) (by kernel_rfl) (by kernel_rfl) (fun _ _ _ h => h) (by rfl) ?y123 ?r123
        case y123 => (intro w9q hSwq; clear hSwq; go_simp; with_reducible rfl)
        try simp only [Act.put, List.setIfInBounds_toArray, List.set_cons_zero, List.set_cons_succ]
        refine rest_got (i := 33) (v := ?v124) rfl (by kernel_rfl) (by kernel_rfl) (by kernel_rfl) (fun _ _ _ h => h) (by rfl) ?y124 ?r124
        case y124 => (intro w9q hSwq; clear hSwq; go_simp; with_reducible rfl)
        try simp only [Act.put, List.setIfInBounds_toArray, List.set_cons_zero, List.set_cons_succ]
        refine rest_got (i := 34) (v := ?v125) rfl (by kernel_rfl) (by kernel_rfl) (by kernel_rfl) (fun _ _ _ h => h) (by rfl) ?y125 ?r125
        case y125 => ((intro w9' hm9'; have hc9' := Mod.cell hm9' P3.out (by first | exact List.not_mem_nil | assumption | (simp; done) | (simp; omega)); clear hm9'; go_simp; with_reducible rfl))
        try simp only [Act.put, List.setIfInBounds_toArray, List.set_cons_zero, List.set_cons_succ]
        refine rest_got (i := 35) (v := ?v126) rfl (by kernel_rfl) (by kernel_rfl) (by kernel_rfl) (fun _ _ _ h => h) (by rfl) ?y126 ?r126
        case y126 => ((intro w9' hm9'; refine Eq.trans (reads_str _ _ _ _ 5 Tryd.underlying27 Tryd.underlying5 Tryd.underlying9 _ _ _ _ rfl (by first | rfl | simp) PX.out (by first | (intro k _ hk; exact (List.not_mem_nil hk)) | simp) w9' hm9') ?_; with_reducible rfl))
        try simp only [Act.put, List.setIfInBounds_toArray, List.set_cons_zero, List.set_cons_succ]
        refine rest_got (i := 36) (v := ?v127) rfl (by kernel_rfl) (by kernel_rfl) (by kernel_rfl) (fun _ _ _ h => h) (by rfl) ?y127 ?r127
        case y127 => (intro w9q hSwq; clear hSwq; go_simp; with_reducible rfl)
        try simp only [Act.put, List.setIfInBounds_toArray, List.set_cons_zero, List.set_cons_succ]
        refine rest_got (i := 37) (v := ?v128) rfl (by kernel_rfl) (by kernel_rfl) (by kernel_rfl) (fun _ _ _ h => h) (by rfl) ?y128 ?r128
        case y128 => ((intro w9' hm9'; have hc9' := Mod.cell hm9' B6.out (by first | exact List.not_mem_nil | assumption | (simp; done) | (simp; omega)); clear hm9'; go_simp; with_reducible rfl))
        try simp only [Act.put, List.setIfInBounds_toArray, List.set_cons_zero, List.set_cons_succ]
        refine rest_got (i := 38) (v := ?v129) rfl (by kernel_rfl) (by kernel_rfl) (by kernel_rfl) (fun _ _ _ h => h) (by rfl) ?y129 ?r129
        case y129 => (intro w9q hSwq; clear hSwq; go_simp; with_reducible rfl)
        try simp only [Act.put, List.setIfInBounds_toArray, List.set_cons_zero, List.set_cons_succ]
        refine rest_got (i := 39) (v := ?v130) rfl (by kernel_rfl) (by kernel_rfl) (by kernel_rfl) (fun _ _ _ h => h) (by rfl) ?y130 ?r130
        case y130 => (intro w9q hSwq; clear hSwq; go_simp; with_reducible rfl)
        try simp only [Act.put, List.setIfInBounds_toArray, List.set_cons_zero, List.set_cons_succ]
        refine rest_got (i := 40) (v := ?v131) rfl (by kernel_rfl) (by kernel_rfl) (by kernel_rfl) (fun _ _ _ h => h) (by rfl) ?y131 ?r131
        case y131 => (intro w9q hSwq; clear hSwq; go_simp; with_reducible rfl)
        try simp only [Act.put, List.setIfInBounds_toArray, List.set_cons_zero, List.set_cons_succ]
        refine rest_got (i := 41) (v := ?v132) rfl (by kernel_rfl) (by kernel_rfl) (by kernel_rfl) (fun _ _ _ h => h) (by rfl) ?y132 ?r132
        case y132 => ((intro w9' hm9'; have hc9' := Mod.cell hm9' Q3.out (by first | exact List.not_mem_nil | assumption | (simp; done) | (simp; omega)); clear hm9'; go_simp; with_reducible rfl))
        try simp only [Act.put, List.setIfInBounds_toArray, List.set_cons_zero, List.set_cons_succ]
        refine rest_got (i := 42) (v := ?v133) rfl (by kernel_rfl) (by kernel_rfl) (by kernel_rfl) (fun _ _ _ h => h) (by rfl) ?y133 ?r133
        case y133 => ((intro w9' hm9'; refine Eq.trans (reads_str _ _ _ _ 5 Tryd.underlying27 Tryd.underlying5 Tryd.underlying9 _ _ _ _ rfl (by first | rfl | simp) PY.out (by first | (intro k _ hk; exact (List.not_mem_nil hk)) | simp) w9' hm9') ?_; with_reducible rfl))
        try simp only [Act.put, List.setIfInBounds_toArray, List.set_cons_zero, List.set_cons_succ]
        refine rest_got (i := 43) (v := ?v134) rfl (by kernel_rfl) (by kernel_rfl) (by kernel_rfl) (fun _ _ _ h => h) (by rfl) ?y134 ?r134
        case y134 => ((intro w9' hm9'; refine Eq.trans (reads_nes w9' _ _ _ _ _ rfl rfl) ?_; refine Eq.trans (congrArg (fun b => Result.ok (Next.value (Value.bool (!b))) w9') DQ.out) ?_; with_reducible rfl))
        try simp only [Act.put, List.setIfInBounds_toArray, List.set_cons_zero, List.set_cons_succ]
        refine rest_got (i := 44) (v := ?v135) rfl (by kernel_rfl) (by kernel_rfl) (by kernel_rfl) (fun _ _ _ h => h) (by rfl) ?y135 ?r135
        case y135 => (intro w9q hSwq; clear hSwq; go_simp; with_reducible rfl)
        try simp only [Act.put, List.setIfInBounds_toArray, List.set_cons_zero, List.set_cons_succ]
        refine rest_done (by kernel_rfl) ?_ _
        cases qe
        case false =>
          have HH : Hid (q = false) := Lib.hid (HNO.out (fun h => by
            have h2 := (HST.out.1 h).2
            exact absurd (HQE.out.2 h2) (by decide)))
          clear HQ HST HQE HNO
          go_wp2_with fail
          go_ret
          exact ⟨by rw [HH.out]; rfl, MM6.out⟩
        have HA2 := Lib.hid (HST.out.2 (by simp [HQE.out.1 rfl]))
        clear HST HQE HNO
        go_wp2_with fail
        go_roundw
        case rel => exact ⟨k2 + 1, by omega, by go_num, HA2.out, HM6.out⟩
        case measure => simp [intOf]; omega
end Go.Proofs.YtekdnljincbghaaDoor
/- The walk of the message laws' wakes. -/
namespace Go.Proofs.YtekdnljincbghaaDoor
open Go Go.RowKit Go.Lib

def dW : Md := ⟨⟨4, 1, 0, 5, 0, 4⟩, [], [[120]], []⟩
theorem dW_may : MayM dW := by decide +kernel
theorem dW_num : NumD dW := by
  refine ⟨?_, by intro v hv; cases hv⟩
  unfold WfH dW
  dsimp only
  omega
theorem dW_in : insideB dW = [4, 1, 0, 4, 5, 1, 1, 120] := by decide +kernel
theorem dW_bytes : msgB dW = sum4 (insideB dW) ++ [4, 1, 0, 4, 5, 1, 1, 120] := by unfold msgB; rw [dW_in]
theorem dW_len : (msgB dW).length = 12 := by rw [dW_bytes]; rfl
theorem dW_take : takeR (msgB dW) = (0, dW) := takeR_write dW dW_may dW_num (by rw [dW_len]; omega)
theorem dW_at : ∀ h : 7 < (msgB dW).length, (msgB dW)[7] = 4 := by
  intro h
  have e : (msgB dW)[7]? = some 4 := by rw [dW_bytes]; rfl
  rw [List.getElem?_eq_getElem h] at e
  exact Option.some.inj e
theorem dW_flip : takeR ((msgB dW).set 7 5) = (12, (mz 0).d) := by
  have h := takeR_flip (msgB dW) 56 (by rw [dW_len]; omega) (by rw [msgB_take, msgB_drop]) (by rw [dW_len]; omega)
  have e := flip_set (msgB dW) 56 (by rw [dW_len]; omega)
  rw [e] at h
  have e7 : (msgB dW)[56 / 8]'(by rw [dW_len]; omega) = 4 := dW_at (by rw [dW_len]; omega)
  rw [e7] at h
  exact h
def d6 (n : Nat) : Md := ⟨⟨6, 0, 0, n, 0, 0⟩, [], [], []⟩
theorem d6_no : checkE (d6 0) = 1 := checkE_no (by decide +kernel)
theorem d6_yes : checkE (d6 1) = 0 := if_pos (by decide +kernel)
def m6 (n : Nat) : Mm := ⟨⟨6, 0, 0, n, 0, 0⟩, none, 0, [], none, 0, [], ([], none, 0)⟩
theorem m6_sees (n : Nat) (w : World) : SeesM w (m6 n) := ⟨fun j h => absurd h (by simp [m6]), fun j h => absurd h (by simp [m6]), Sees.nil _ _⟩
theorem m6_wf (n : Nat) (h : n < 2) : WfM (m6 n) := by
  refine ⟨?_, Nat.zero_le _, by simp [m6], Nat.zero_le _, by simp [m6], ?_⟩
  · unfold WfH m6; dsimp only; omega
  · unfold WfB m6; dsimp only; simp
set_option maxRecDepth 100000 in
set_option maxHeartbeats 8000000 in
theorem wakes17_any (w : World) (hf : Flds w) (hT : TableAt w T0) : Calls Tryd.prog 11 #[] w fun e w' => e = .returned (.bool true) ∧ Mod [] w w' := by
  have hcv : (convert 27 27 (.slice (some ⟨w.heap.size, 0, none⟩) 1 1)).run Tryd.prog (w.alloc (.cells #[.int .u8 120] 5)) = .ok (.slice (some ⟨w.heap.size, 0, none⟩) 1 1) (w.alloc (.cells #[.int .u8 120] 5 (1, 2))) := Lib.run_convert_bytes_const (P := Tryd.prog) w 27 5 #[.int .u8 120] 1 1 Tryd.underlying27 Tryd.underlying5
  have ma := Mod.alloc [] w (.cells #[.int .u8 120] 5 (1, 2))
  have ha := heap_alloc_new w (.cells #[.int .u8 120] 5 (1, 2))
  obtain ⟨w1, hw1⟩ : ∃ x, w.alloc (.cells #[.int .u8 120] 5 (1, 2)) = x := ⟨_, rfl⟩
  rw [hw1] at ma ha hcv
  have mb := Mod.alloc [] w1 (.cells #[.slice (some ⟨w.heap.size, 0, none⟩) 1 1] 27)
  have hb := heap_alloc_new w1 (.cells #[.slice (some ⟨w.heap.size, 0, none⟩) 1 1] 27)
  obtain ⟨w2, hw2⟩ : ∃ x, w1.alloc (.cells #[.slice (some ⟨w.heap.size, 0, none⟩) 1 1] 27) = x := ⟨_, rfl⟩
  rw [hw2] at mb hb
  have hB : OwnB w2 (some ⟨w.heap.size, 0, none⟩) 1 [120] := OwnB.lit1 (mb.get ha List.not_mem_nil) 120 rfl (.inr (by decide))
  have M2 := Lib.hid (ma.trans' mb)
  have HP := Lib.hid (mput_any ⟨⟨4, 1, 0, 5, 0, 4⟩, none, 0, [], some ⟨w1.heap.size, 0, none⟩, 1, [([120], some ⟨w.heap.size, 0, none⟩, 1)], ([], none, 0)⟩ w2
    ⟨fun j h => absurd h (by simp), fun j h => by
      have : j = 0 := by simpa using h
      subst this
      exact ⟨w1.heap.size, 0, rfl, cell_of_block hb, hB.sees⟩, Sees.nil _ _⟩
    (by
      refine ⟨?_, Nat.zero_le _, by simp, by simp, fun b hb => ?_, ?_⟩
      · unfold WfH; dsimp only; omega
      · simp only [List.mem_singleton] at hb
        subst hb
        unfold WfB
        dsimp only
        simp
      · unfold WfB; dsimp only; simp)
    ⟨by simp, by simp, by simp, by simp, by simp⟩ (hf.mod0 M2.out) (hT.mod0 M2.out))
  unfold msgV mC at HP
  dsimp only at HP
  have hd : Mm.d ⟨⟨4, 1, 0, 5, 0, 4⟩, none, 0, [], some ⟨w1.heap.size, 0, none⟩, 1, [([120], some ⟨w.heap.size, 0, none⟩, 1)], ([], none, 0)⟩ = dW := rfl
  rw [hd] at HP
  have HF := Lib.hid hf
  have HT := Lib.hid hT
  clear hd hf hT ma ha mb hb hB
  go_enter Tryd.func11, Tryd.ntmps11
  go_wp2_with fail
  refine HP.out.mono ?_
  rintro e w3 ⟨a, n, c, rfl, hn, ho, m3, hd⟩
  rw [if_pos dW_may] at hn ho
  rw [dW_len] at hn
  subst hn
  have HCE : Hid (checkE dW = 0) := Lib.hid (if_pos dW_may)
  rw [HCE.out]
  have O3 := Lib.hid ho
  have M3 := Lib.hid (M2.out.trans' m3)
  obtain ⟨g, rfl, hg⟩ := Own.ne_none ho (by rw [dW_len]; omega)
  have hc12 : 12 ≤ c := by have := Own.le ho; rw [dW_len] at this; exact this
  have hcmax := (own_max ho).2
  have HD : Hid (w.heap.size ≤ g) := Lib.hid (Nat.le_trans M2.out.size (hd g (by simp [blk])))
  have hs4 : Sees w3 (some ⟨g, 4, none⟩) [4, 1, 0, 4, 5, 1, 1, 120] := by
    have h := (ho.sees).dropMap 4
    rw [msgB_drop, dW_in] at h
    simpa [Addr.add_lit] using h
  have cv := str_run (c := c - 4) hs4
  simp only [List.length_cons, List.length_nil] at cv
  have hc4 : ¬ c = 4 := by omega
  clear ho m3 hd hs4 HP hcv hw1 hw2
  go_wp2_with fail
  refine (mtake_any (some ⟨g, 0, none⟩) 12 c (msgB dW) w3 dW_len hc12 hcmax O3.out.sees (HF.out.mod0 M3.out) (HT.out.mod0 M3.out)).mono ?_
  rintro e w4 ⟨m, rfl, hmd, nm4, -, m4⟩
  rw [dW_take] at hmd ⊢
  dsimp only at hmd
  obtain ⟨⟨kind, bn, br, first, last, commit⟩, vo, vc, votes, so, sc, batches, pl, po, pc⟩ := m
  unfold Mm.d dW at hmd
  simp only [Md.mk.injEq, Hd.mk.injEq] at hmd
  obtain ⟨⟨rfl, rfl, rfl, rfl, rfl, rfl⟩, hv, hb, rfl⟩ := hmd
  have hv' : votes = [] := List.map_eq_nil_iff.1 hv
  subst hv'
  obtain ⟨⟨bx, bo, bc⟩, rfl, rfl⟩ : ∃ b : Bs, batches = [b] ∧ b.1 = [120] := by
    match batches, hb with
    | [b], h => exact ⟨b, rfl, by simpa [dB] using h⟩
    | [], h => simp [dB] at h
    | _ :: _ :: _, h => simp [dB] at h
  have NM4 := Lib.hid nm4
  have M4 := Lib.hid (M3.out.trans' m4)
  have O4 := Lib.hid (OwnB.mod0 O3.out m4)
  have hg4 : g < w4.heap.size := Nat.lt_of_lt_of_le hg m4.size
  have hg3 := hg
  clear nm4 m4 O3 M3 cv hv hb
  unfold msgV mC
  dsimp only
  obtain ⟨wz, hwz, hbz, mz⟩ : ∃ x, w4.alloc (.cells #[.int .u8 0, .int .u64 0, .int .i64 0, .int .u64 0, .int .u64 0, .int .u64 0, .slice none 0 0, .slice none 0 0, .slice none 0 0] 29) = x ∧ x.heap[w4.heap.size]? = some (.cells #[.int .u8 0, .int .u64 0, .int .i64 0, .int .u64 0, .int .u64 0, .int .u64 0, .slice none 0 0, .slice none 0 0, .slice none 0 0] 29 (0, 0)) ∧ Mod [] w4 x := ⟨_, rfl, heap_alloc_new w4 _, Mod.alloc _ _ _⟩
  have z0 := cell_of_block (i := 0) hbz
  have y0 := free_of_block (i := 0) hbz
  have z1 := cell_of_block (i := 1) hbz
  have y1 := free_of_block (i := 1) hbz
  have z2 := cell_of_block (i := 2) hbz
  have y2 := free_of_block (i := 2) hbz
  have z3 := cell_of_block (i := 3) hbz
  have y3 := free_of_block (i := 3) hbz
  have z4 := cell_of_block (i := 4) hbz
  have y4 := free_of_block (i := 4) hbz
  have z5 := cell_of_block (i := 5) hbz
  have y5 := free_of_block (i := 5) hbz
  have z6 := cell_of_block (i := 6) hbz
  have y6 := free_of_block (i := 6) hbz
  have z7 := cell_of_block (i := 7) hbz
  have y7 := free_of_block (i := 7) hbz
  have z8 := cell_of_block (i := 8) hbz
  have y8 := free_of_block (i := 8) hbz
  simp only [List.getElem?_toArray, List.getElem?_cons_succ, List.getElem?_cons_zero] at z0 z1 z2 z3 z4 z5 z6 z7 z8
  simp only [List.length_nil, List.length_cons, Nat.zero_add, Int.natCast_zero]
  go_upto_region 5 with (fail)
  obtain ⟨w5, hw5⟩ : ∃ x, (((((((((wz.setCell ⟨w4.heap.size, 0, none⟩ (.int .u8 4)).setCell ⟨w4.heap.size, 1, none⟩ (.int .u64 1)).setCell ⟨w4.heap.size, 2, none⟩ (.int .i64 0)).setCell ⟨w4.heap.size, 3, none⟩ (.int .u64 5)).setCell ⟨w4.heap.size, 4, none⟩ (.int .u64 0)).setCell ⟨w4.heap.size, 5, none⟩ (.int .u64 4)).setCell ⟨w4.heap.size, 6, none⟩ (.slice vo 0 vc)).setCell ⟨w4.heap.size, 7, none⟩ (.slice so 1 sc)).setCell ⟨w4.heap.size, 8, none⟩ (.slice po 0 pc)) = x := ⟨_, rfl⟩
  rw [hw5]
  have hbw5 : w5.heap[w4.heap.size]? = some (.cells #[.int .u8 4, .int .u64 1, .int .i64 0, .int .u64 5, .int .u64 0, .int .u64 4, .slice vo 0 vc, .slice so 1 sc, .slice po 0 pc] 29 (0, 0)) := by
    rw [← hw5]
    have h := (heap_setCell_same (i := 8) (heap_setCell_same (i := 7) (heap_setCell_same (i := 6) (heap_setCell_same (i := 5) (heap_setCell_same (i := 4) (heap_setCell_same (i := 3) (heap_setCell_same (i := 2) (heap_setCell_same (i := 1) (heap_setCell_same (i := 0) hbz (.int .u8 4)) (.int .u64 1)) (.int .i64 0)) (.int .u64 5)) (.int .u64 0)) (.int .u64 4)) (.slice vo 0 vc)) (.slice so 1 sc)) (.slice po 0 pc))
    simp only [List.setIfInBounds_toArray, List.set_cons_zero, List.set_cons_succ] at h
    exact h
  have mw5 : Mod [] w4 w5 := by
    rw [← hw5]
    exact mz.trans (T := [w4.heap.size]) (((((((((Mod.setCell _ _ _ (by simp)).trans' (Mod.setCell _ _ _ (by simp))).trans' (Mod.setCell _ _ _ (by simp))).trans' (Mod.setCell _ _ _ (by simp))).trans' (Mod.setCell _ _ _ (by simp))).trans' (Mod.setCell _ _ _ (by simp))).trans' (Mod.setCell _ _ _ (by simp))).trans' (Mod.setCell _ _ _ (by simp))).trans' (Mod.setCell _ _ _ (by simp))) (by simp)
  clear z0 z1 z2 z3 z4 z5 z6 z7 z8 y0 y1 y2 y3 y4 y5 y6 y7 y8 hbz mz hwz hw5
  have NM5 := Lib.hid (NM4.out.mod0 mw5)
  have O5 := Lib.hid (OwnB.mod0 O4.out mw5)
  have M5 := Lib.hid (M4.out.trans' mw5)
  have HB5 := Lib.hid hbw5
  have hg5 : g < w5.heap.size := Nat.lt_of_lt_of_le hg4 mw5.size
  clear NM4 O4 M4 mw5 hbw5
  obtain ⟨g', e0, c7, f7⟩ := Own.cell O5.out (j := 7) (u := u8v 4) (by
    rw [List.getElem?_map, List.getElem?_eq_getElem (by rw [dW_len]; omega), dW_at]
    rfl)
  cases e0
  have c7' : w5.cell? ⟨g, 7, none⟩ = some (.int .u8 4) := c7
  clear c7
  go_upto_region 6 with (fail)
  have hsset : OwnB (w5.setCell ⟨g, 7, none⟩ (.int .u8 5)) (some ⟨g, 0, none⟩) c ((msgB dW).set 7 5) := by
    have h := Own.set (j := 7) O5.out (u8v 5)
    unfold OwnB
    rw [List.length_set, List.map_set]
    exact h
  have m6 : Mod [g] w5 (w5.setCell ⟨g, 7, none⟩ (.int .u8 5)) := Mod.setCell _ _ _ (by simp)
  obtain ⟨w6, hw6⟩ : ∃ x, w5.setCell ⟨g, 7, none⟩ (.int .u8 5) = x := ⟨_, rfl⟩
  rw [hw6] at hsset m6 ⊢
  have O6 := Lib.hid hsset
  have NM6 := Lib.hid (NM5.out.off m6 (by simp; exact hg3))
  have M6 := Lib.hid (M5.out.trans m6 (by have := HD.out; simp; omega))
  have HB6 := Lib.hid (m6.get HB5.out (by simp; omega))
  clear hsset m6 hw6 c7' f7 O5 NM5 M5 HB5
  go_wp2_with fail
  refine (mtake_any (some ⟨g, 0, none⟩) 12 c ((msgB dW).set 7 5) w6 (by rw [List.length_set, dW_len]) hc12 hcmax O6.out.sees (HF.out.mod0 M6.out) (HT.out.mod0 M6.out)).mono ?_
  rintro e w7 ⟨m2, rfl, hmd, -, -, m7⟩
  rw [dW_flip] at hmd ⊢
  dsimp only at hmd
  obtain ⟨⟨kind, bn, br, first, last, commit⟩, vo2, vc2, votes2, so2, sc2, batches2, pl2, po2, pc2⟩ := m2
  unfold Mm.d mz at hmd
  simp only [Md.mk.injEq, Hd.mk.injEq] at hmd
  obtain ⟨⟨rfl, rfl, rfl, rfl, rfl, rfl⟩, -, -, -⟩ := hmd
  have NM7 := Lib.hid (NM6.out.mod0 m7)
  have M7 := Lib.hid (M6.out.trans' m7)
  have HB7 := Lib.hid (m7.get HB6.out List.not_mem_nil)
  clear m7 O6 NM6 M6 HB6
  unfold msgV mC
  dsimp only
  obtain ⟨vl2, hvl2⟩ : ∃ x, votes2.length = x := ⟨_, rfl⟩
  obtain ⟨bl2, hbl2⟩ : ∃ x, batches2.length = x := ⟨_, rfl⟩
  obtain ⟨sl2, hsl2⟩ : ∃ x, pl2.length = x := ⟨_, rfl⟩
  rw [hvl2, hbl2, hsl2]
  clear hvl2 hbl2 hsl2
  obtain ⟨wz, hwz, hbz, mz⟩ : ∃ x, w7.alloc (.cells #[.int .u8 0, .int .u64 0, .int .i64 0, .int .u64 0, .int .u64 0, .int .u64 0, .slice none 0 0, .slice none 0 0, .slice none 0 0] 29) = x ∧ x.heap[w7.heap.size]? = some (.cells #[.int .u8 0, .int .u64 0, .int .i64 0, .int .u64 0, .int .u64 0, .int .u64 0, .slice none 0 0, .slice none 0 0, .slice none 0 0] 29 (0, 0)) ∧ Mod [] w7 x := ⟨_, rfl, heap_alloc_new w7 _, Mod.alloc _ _ _⟩
  have z0 := cell_of_block (i := 0) hbz
  have y0 := free_of_block (i := 0) hbz
  have z1 := cell_of_block (i := 1) hbz
  have y1 := free_of_block (i := 1) hbz
  have z2 := cell_of_block (i := 2) hbz
  have y2 := free_of_block (i := 2) hbz
  have z3 := cell_of_block (i := 3) hbz
  have y3 := free_of_block (i := 3) hbz
  have z4 := cell_of_block (i := 4) hbz
  have y4 := free_of_block (i := 4) hbz
  have z5 := cell_of_block (i := 5) hbz
  have y5 := free_of_block (i := 5) hbz
  have z6 := cell_of_block (i := 6) hbz
  have y6 := free_of_block (i := 6) hbz
  have z7 := cell_of_block (i := 7) hbz
  have y7 := free_of_block (i := 7) hbz
  have z8 := cell_of_block (i := 8) hbz
  have y8 := free_of_block (i := 8) hbz
  simp only [List.getElem?_toArray, List.getElem?_cons_succ, List.getElem?_cons_zero] at z0 z1 z2 z3 z4 z5 z6 z7 z8
  go_upto_region 7 with (fail)
  obtain ⟨w8, hw8⟩ : ∃ x, (((((((((wz.setCell ⟨w7.heap.size, 0, none⟩ (.int .u8 0)).setCell ⟨w7.heap.size, 1, none⟩ (.int .u64 0)).setCell ⟨w7.heap.size, 2, none⟩ (.int .i64 0)).setCell ⟨w7.heap.size, 3, none⟩ (.int .u64 0)).setCell ⟨w7.heap.size, 4, none⟩ (.int .u64 0)).setCell ⟨w7.heap.size, 5, none⟩ (.int .u64 0)).setCell ⟨w7.heap.size, 6, none⟩ (.slice vo2 vl2 vc2)).setCell ⟨w7.heap.size, 7, none⟩ (.slice so2 bl2 sc2)).setCell ⟨w7.heap.size, 8, none⟩ (.slice po2 sl2 pc2)) = x := ⟨_, rfl⟩
  rw [hw8]
  have hbw8 : w8.heap[w7.heap.size]? = some (.cells #[.int .u8 0, .int .u64 0, .int .i64 0, .int .u64 0, .int .u64 0, .int .u64 0, .slice vo2 vl2 vc2, .slice so2 bl2 sc2, .slice po2 sl2 pc2] 29 (0, 0)) := by
    rw [← hw8]
    have h := (heap_setCell_same (i := 8) (heap_setCell_same (i := 7) (heap_setCell_same (i := 6) (heap_setCell_same (i := 5) (heap_setCell_same (i := 4) (heap_setCell_same (i := 3) (heap_setCell_same (i := 2) (heap_setCell_same (i := 1) (heap_setCell_same (i := 0) hbz (.int .u8 0)) (.int .u64 0)) (.int .i64 0)) (.int .u64 0)) (.int .u64 0)) (.int .u64 0)) (.slice vo2 vl2 vc2)) (.slice so2 bl2 sc2)) (.slice po2 sl2 pc2))
    simp only [List.setIfInBounds_toArray, List.set_cons_zero, List.set_cons_succ] at h
    exact h
  have mw8 : Mod [] w7 w8 := by
    rw [← hw8]
    exact mz.trans (T := [w7.heap.size]) (((((((((Mod.setCell _ _ _ (by simp)).trans' (Mod.setCell _ _ _ (by simp))).trans' (Mod.setCell _ _ _ (by simp))).trans' (Mod.setCell _ _ _ (by simp))).trans' (Mod.setCell _ _ _ (by simp))).trans' (Mod.setCell _ _ _ (by simp))).trans' (Mod.setCell _ _ _ (by simp))).trans' (Mod.setCell _ _ _ (by simp))).trans' (Mod.setCell _ _ _ (by simp))) (by simp)
  clear z0 z1 z2 z3 z4 z5 z6 z7 z8 y0 y1 y2 y3 y4 y5 y6 y7 y8 hbz mz hwz hw8
  have NM8 := Lib.hid (NM7.out.mod0 mw8)
  have M8 := Lib.hid (M7.out.trans' mw8)
  have HB8 := Lib.hid (mw8.get HB7.out List.not_mem_nil)
  clear NM7 M7 HB7 mw8 hbw8
  obtain ⟨b, off, rfl, p0, px⟩ := NM8.out.batches.sees 0 (by simp)
  have p0' : w8.cell? ⟨b, off, none⟩ = some (.slice bo 1 bc) := p0
  have cv := str_run (c := bc) px
  have cv' : (convert 27 9 (.slice bo 1 bc)).run Tryd.prog w8 = .ok (strV [120]) w8 := cv
  clear p0 px cv
  have d0 := cell_of_block (i := 0) HB8.out
  have d1 := cell_of_block (i := 1) HB8.out
  have d2 := cell_of_block (i := 2) HB8.out
  have d3 := cell_of_block (i := 3) HB8.out
  have d4 := cell_of_block (i := 4) HB8.out
  have d5 := cell_of_block (i := 5) HB8.out
  have d6 := cell_of_block (i := 6) HB8.out
  have d7 := cell_of_block (i := 7) HB8.out
  have d8 := cell_of_block (i := 8) HB8.out
  simp only [List.getElem?_toArray, List.getElem?_cons_succ, List.getElem?_cons_zero] at d0 d1 d2 d3 d4 d5 d6 d7 d8
  have HC0 := Lib.hid (check_any (m6 0) w8 (m6_sees 0 w8) (m6_wf 0 (by omega)) (HF.out.mod0 M8.out))
  have e0 : checkE (m6 0).d = 1 := d6_no
  rw [e0] at HC0
  clear e0
  go_wp2_with fail
  refine HC0.out.mono ?_
  rintro e w9 ⟨rfl, m9⟩
  have M9 := Lib.hid (M8.out.trans' m9)
  have HC1 := Lib.hid (check_any (m6 1) w9 (m6_sees 1 w9) (m6_wf 1 (by omega)) (HF.out.mod0 M9.out))
  have e1 : checkE (m6 1).d = 0 := d6_yes
  rw [e1] at HC1
  clear e1 m9 HC0
  go_wp2_with fail
  refine HC1.out.mono ?_
  rintro e w10 ⟨rfl, m10⟩
  have M10 := Lib.hid (M9.out.trans' m10)
  clear m10 HC1
  go_wp2_with fail
  go_ret
  exact ⟨rfl, M10.out⟩
end Go.Proofs.YtekdnljincbghaaDoor
