/- Texts put together (5 of 7): Msg15, CrcBurst, MsgLaw, MsgLaw2, Msg13. -/
import Derived.Test.YtekdnljincbghaaDoorZ4
import Derived.Test.YtekdnljincbghaaDoorZ3
/- The walk of quoratelaw17.own. -/
namespace Go.Proofs.YtekdnljincbghaaDoor
open Go Go.RowKit Go.Lib

/-- A copy while it is made: of what message, what is made so far. -/
structure OW (w : World) (m n : Mm) (wr : World) : Prop where
  b1 : wr.heap[w.heap.size]? = some (.cells (mC (.int .u8 (m.h.kind : Int)) m) 29 (0, 0))
  b2 : wr.heap[w.heap.size + 1]? = some (.cells #[.int .u8 0, .int .u64 0, .int .i64 0, .int .u64 0, .int .u64 0, .int .u64 0, .slice none 0 0, .slice none 0 0, .slice none 0 0] 29 (0, 0))
  b3 : wr.heap[w.heap.size + 2]? = some (.cells (mC (.int .u8 (m.h.kind : Int)) n) 29 (0, 0))
  nm : NewM (w.heap.size + 3) wr n
  mod : Mod [] w wr
section
variable {w wr w' : World} {m n n' : Mm}
theorem OW.lt (h : OW w m n wr) : w.heap.size + 3 ≤ wr.heap.size := by have := lt_of_block h.b3; omega
theorem OW.still (h : OW w m n wr) (k : Mod [] wr w') : OW w m n w' := ⟨k.get h.b1 List.not_mem_nil, k.get h.b2 List.not_mem_nil, k.get h.b3 List.not_mem_nil, h.nm.mod0 k, h.mod.trans' k⟩
theorem OW.app (h : OW w m n wr) {S : List Nat} (k : Mod S wr w') (hS : ∀ i, i ∈ S → w.heap.size + 3 ≤ i) (hn : NewM (w.heap.size + 3) w' n) : OW w m n w' :=
  ⟨k.get h.b1 (fun hi => by have := hS _ hi; omega), k.get h.b2 (fun hi => by have := hS _ hi; omega), k.get h.b3 (fun hi => by have := hS _ hi; omega), hn, h.mod.trans k (fun i hi hl => by have := hS i hi; omega)⟩
theorem OW.set (h : OW w m n wr) (i : Nat) (v : Value) (he : (mC (.int .u8 (m.h.kind : Int)) n).setIfInBounds i v = mC (.int .u8 (m.h.kind : Int)) n') (hn : NewM (w.heap.size + 3) wr n') : OW w m n' (wr.setCell ⟨w.heap.size + 2, i, none⟩ v) := by
  have k : Mod [w.heap.size + 2] wr (wr.setCell ⟨w.heap.size + 2, i, none⟩ v) := Mod.setCell wr _ _ (by simp)
  have h1 := heap_setCell_same (i := i) h.b3 v
  rw [he] at h1
  exact ⟨k.get h.b1 (by simp), k.get h.b2 (by simp), h1, hn.off k (by simp), h.mod.trans k (by simp)⟩
end
theorem ob_empty (w : World) : OwnB (w.alloc (.cells #[] 5)) (some ⟨w.heap.size, 0, none⟩) 0 [] := Own.new (n := 0) (heap_alloc_new w (.cells #[] 5)) (.inl rfl) rfl (by unfold maxLen; omega)

set_option maxRecDepth 100000 in
set_option maxHeartbeats 16000000 in
theorem own17_any (m : Mm) (w : World) (hs : SeesM w m) (hw : WfM m) (hf : SmallM m) : Calls Tryd.prog 12 #[msgV m] w fun e w' => ∃ n, e = .returned (msgV n) ∧ n.d = m.d ∧ NewM w.heap.size w' n ∧ Mod [] w w' := by
  have HSV := Lib.hid hs.votes
  have HSB := Lib.hid hs.batches
  have HSP := Lib.hid hs.snap
  have HFV := Lib.hid hf.vote
  have HFB := Lib.hid hf.batch
  have hf1 := hf.votes
  have hf2 := hf.batches
  have hf3 := hf.snap
  have hD : m.d = ⟨m.h, dV m.votes, dB m.batches, m.p.1⟩ := rfl
  obtain ⟨mm, hmm⟩ : ∃ x, m = x := ⟨_, rfl⟩
  have HMM := Lib.hid hmm
  rw [hmm] at hD
  obtain ⟨⟨kind, bn, br, first, last, commit⟩, vo, vc, votes, so, sc, batches, pl, po, pc⟩ := m
  rw [← hmm] at hD
  dsimp only at hD HSV HSB HSP HFV HFB hf1 hf2 hf3
  rw [hmm] at hD
  have HD := Lib.hid hD
  have hk1 : mm.h.kind = kind := by rw [← hmm]
  have HK1 := Lib.hid hk1
  have HV1 : Hid (msgV mm = .agg #[.int .u8 (kind : Int), .int .u64 (bn : Int), .int .i64 br, .int .u64 (first : Int), .int .u64 (last : Int), .int .u64 (commit : Int), .slice vo votes.length vc, .slice so batches.length sc, .slice po pl.length pc]) := Lib.hid (by rw [← hmm]; rfl)
  have HCM : Hid (mC (.int .u8 (mm.h.kind : Int)) mm = #[.int .u8 (kind : Int), .int .u64 (bn : Int), .int .i64 br, .int .u64 (first : Int), .int .u64 (last : Int), .int .u64 (commit : Int), .slice vo votes.length vc, .slice so batches.length sc, .slice po pl.length pc]) := Lib.hid (by rw [← hmm]; rfl)
  rw [hmm, HV1.out]
  clear hs hw hf hD hmm hk1
  have m1 := Mod.alloc [] w (.cells #[.int .u8 (kind : Int), .int .u64 (bn : Int), .int .i64 br, .int .u64 (first : Int), .int .u64 (last : Int), .int .u64 (commit : Int), .slice vo votes.length vc, .slice so batches.length sc, .slice po pl.length pc] 29)
  have hb1 := heap_alloc_new w (.cells #[.int .u8 (kind : Int), .int .u64 (bn : Int), .int .i64 br, .int .u64 (first : Int), .int .u64 (last : Int), .int .u64 (commit : Int), .slice vo votes.length vc, .slice so batches.length sc, .slice po pl.length pc] 29)
  obtain ⟨w1, hw1⟩ : ∃ x, w.alloc (.cells #[.int .u8 (kind : Int), .int .u64 (bn : Int), .int .i64 br, .int .u64 (first : Int), .int .u64 (last : Int), .int .u64 (commit : Int), .slice vo votes.length vc, .slice so batches.length sc, .slice po pl.length pc] 29) = x := ⟨_, rfl⟩
  have hz1 : w1.heap.size = w.heap.size + 1 := by rw [← hw1]; simp
  rw [hw1] at m1 hb1
  have m2 := Mod.alloc [] w1 (.cells #[.int .u8 0, .int .u64 0, .int .i64 0, .int .u64 0, .int .u64 0, .int .u64 0, .slice none 0 0, .slice none 0 0, .slice none 0 0] 29)
  have hb2 := heap_alloc_new w1 (.cells #[.int .u8 0, .int .u64 0, .int .i64 0, .int .u64 0, .int .u64 0, .int .u64 0, .slice none 0 0, .slice none 0 0, .slice none 0 0] 29)
  obtain ⟨w2, hw2⟩ : ∃ x, w1.alloc (.cells #[.int .u8 0, .int .u64 0, .int .i64 0, .int .u64 0, .int .u64 0, .int .u64 0, .slice none 0 0, .slice none 0 0, .slice none 0 0] 29) = x := ⟨_, rfl⟩
  have hz2 : w2.heap.size = w.heap.size + 2 := by rw [← hw2]; simp; omega
  rw [hw2] at m2 hb2
  have m3 := Mod.alloc [] w2 (.cells #[.int .u8 0, .int .u64 0, .int .i64 0, .int .u64 0, .int .u64 0, .int .u64 0, .slice none 0 0, .slice none 0 0, .slice none 0 0] 29)
  have hb3 := heap_alloc_new w2 (.cells #[.int .u8 0, .int .u64 0, .int .i64 0, .int .u64 0, .int .u64 0, .int .u64 0, .slice none 0 0, .slice none 0 0, .slice none 0 0] 29)
  obtain ⟨w3, hw3⟩ : ∃ x, w2.alloc (.cells #[.int .u8 0, .int .u64 0, .int .i64 0, .int .u64 0, .int .u64 0, .int .u64 0, .slice none 0 0, .slice none 0 0, .slice none 0 0] 29) = x := ⟨_, rfl⟩
  rw [hw3] at m3 hb3
  rw [hz1] at hb2
  rw [hz2] at hb3
  have hc2 := m2.get hb1 List.not_mem_nil
  have c0 := cell_of_block (i := 0) hc2
  have c1 := cell_of_block (i := 1) hc2
  have c2 := cell_of_block (i := 2) hc2
  have c3 := cell_of_block (i := 3) hc2
  have c4 := cell_of_block (i := 4) hc2
  have c5 := cell_of_block (i := 5) hc2
  have c6 := cell_of_block (i := 6) hc2
  have c7 := cell_of_block (i := 7) hc2
  have c8 := cell_of_block (i := 8) hc2
  simp only [List.getElem?_toArray, List.getElem?_cons_succ, List.getElem?_cons_zero] at c0 c1 c2 c3 c4 c5 c6 c7 c8
  have z0 := cell_of_block (i := 0) hb3
  have y0 := free_of_block (i := 0) hb3
  have z1 := cell_of_block (i := 1) hb3
  have y1 := free_of_block (i := 1) hb3
  have z2 := cell_of_block (i := 2) hb3
  have y2 := free_of_block (i := 2) hb3
  have z3 := cell_of_block (i := 3) hb3
  have y3 := free_of_block (i := 3) hb3
  have z4 := cell_of_block (i := 4) hb3
  have y4 := free_of_block (i := 4) hb3
  have z5 := cell_of_block (i := 5) hb3
  have y5 := free_of_block (i := 5) hb3
  have z6 := cell_of_block (i := 6) hb3
  have y6 := free_of_block (i := 6) hb3
  have z7 := cell_of_block (i := 7) hb3
  have y7 := free_of_block (i := 7) hb3
  have z8 := cell_of_block (i := 8) hb3
  have y8 := free_of_block (i := 8) hb3
  simp only [List.getElem?_toArray, List.getElem?_cons_succ, List.getElem?_cons_zero] at z0 z1 z2 z3 z4 z5 z6 z7 z8
  go_enter Tryd.func12, Tryd.ntmps12
  go_upto_region 4 with (fail)
  obtain ⟨wa, hwa⟩ : ∃ x, (((((((((((w3.setCell ⟨w.heap.size + 2, 0, none⟩ (.int .u8 (kind : Int))).setCell ⟨w.heap.size + 2, 1, none⟩ (.int .u64 (bn : Int))).setCell ⟨w.heap.size + 2, 2, none⟩ (.int .i64 br)).setCell ⟨w.heap.size + 2, 3, none⟩ (.int .u64 (first : Int))).setCell ⟨w.heap.size + 2, 4, none⟩ (.int .u64 (last : Int))).setCell ⟨w.heap.size + 2, 5, none⟩ (.int .u64 (commit : Int))).setCell ⟨w.heap.size + 2, 6, none⟩ (.slice vo votes.length vc)).setCell ⟨w.heap.size + 2, 7, none⟩ (.slice so batches.length sc)).setCell ⟨w.heap.size + 2, 8, none⟩ (.slice po pl.length pc)).setCell ⟨w.heap.size + 2, 6, none⟩ (.slice none 0 0)).setCell ⟨w.heap.size + 2, 7, none⟩ (.slice none 0 0)) = x := ⟨_, rfl⟩
  rw [hwa]
  have hba : wa.heap[w.heap.size + 2]? = some (.cells #[.int .u8 (kind : Int), .int .u64 (bn : Int), .int .i64 br, .int .u64 (first : Int), .int .u64 (last : Int), .int .u64 (commit : Int), .slice none 0 0, .slice none 0 0, .slice po pl.length pc] 29 (0, 0)) := by
    rw [← hwa]
    have h := (heap_setCell_same (i := 7) (heap_setCell_same (i := 6) (heap_setCell_same (i := 8) (heap_setCell_same (i := 7) (heap_setCell_same (i := 6) (heap_setCell_same (i := 5) (heap_setCell_same (i := 4) (heap_setCell_same (i := 3) (heap_setCell_same (i := 2) (heap_setCell_same (i := 1) (heap_setCell_same (i := 0) hb3 (.int .u8 (kind : Int))) (.int .u64 (bn : Int))) (.int .i64 br)) (.int .u64 (first : Int))) (.int .u64 (last : Int))) (.int .u64 (commit : Int))) (.slice vo votes.length vc)) (.slice so batches.length sc)) (.slice po pl.length pc)) (.slice none 0 0)) (.slice none 0 0))
    simp only [List.setIfInBounds_toArray, List.set_cons_zero, List.set_cons_succ] at h
    exact h
  have ma : Mod [] w2 wa := by
    rw [← hwa]
    exact m3.trans (T := [w.heap.size + 2]) (((((((((((Mod.setCell _ _ _ (by simp)).trans' (Mod.setCell _ _ _ (by simp))).trans' (Mod.setCell _ _ _ (by simp))).trans' (Mod.setCell _ _ _ (by simp))).trans' (Mod.setCell _ _ _ (by simp))).trans' (Mod.setCell _ _ _ (by simp))).trans' (Mod.setCell _ _ _ (by simp))).trans' (Mod.setCell _ _ _ (by simp))).trans' (Mod.setCell _ _ _ (by simp))).trans' (Mod.setCell _ _ _ (by simp))).trans' (Mod.setCell _ _ _ (by simp))) (by simp; omega)
  have MA := Lib.hid ((m1.trans' m2).trans' ma)
  have HB1 := Lib.hid (ma.get hc2 List.not_mem_nil)
  have HB2 := Lib.hid (ma.get hb2 List.not_mem_nil)
  have HB3 := Lib.hid hba
  clear c0 c1 c2 c3 c4 c5 c6 c7 c8 z0 z1 z2 z3 z4 z5 z6 z7 z8 y0 y1 y2 y3 y4 y5 y6 y7 y8 hwa hba ma m1 m2 m3 hb1 hb2 hb3 hc2 hw1 hw2 hw3 hz1 hz2
  have me := Mod.alloc [] wa (.cells #[] 5)
  have he := ob_empty wa
  obtain ⟨we, hwe⟩ : ∃ x, wa.alloc (.cells #[] 5) = x := ⟨_, rfl⟩
  have hze : we.heap.size = wa.heap.size + 1 := by rw [← hwe]; simp
  rw [hwe] at me he
  have hla := lt_of_block HB3.out
  have HE := Lib.hid he
  have HB1e := Lib.hid (me.get HB1.out List.not_mem_nil)
  have HB2e := Lib.hid (me.get HB2.out List.not_mem_nil)
  have HB3e := Lib.hid (me.get HB3.out List.not_mem_nil)
  have MAe := Lib.hid (MA.out.trans' me)
  have PL := Lib.hid (HSP.out.mod0 MAe.out)
  clear me he HB1 HB2 HB3 MA
  have c8 := cell_of_block (i := 8) HB1e.out
  simp only [List.getElem?_toArray, List.getElem?_cons_succ, List.getElem?_cons_zero] at c8
  go_wp2_with (first | (at_builtin; refine wpl_app8 (dst := some 13) _ _ (some ⟨wa.heap.size, 0, none⟩) 0 0 [] rfl rfl HE.out po pl.length pc pl rfl rfl PL.out (by omega) ?_) | fail)
  intro a5 c5 w5 o5 m5 s5
  rw [List.nil_append] at o5
  have HB1f := Lib.hid (m5.get HB1e.out (by simp [blk]; omega))
  have HB2f := Lib.hid (m5.get HB2e.out (by simp [blk]; omega))
  have HB3f := Lib.hid (m5.get HB3e.out (by simp [blk]; omega))
  have MF := Lib.hid (MAe.out.trans m5 (fun i hi hl => by simp [blk] at hi; omega))
  have NB5 : Hid (NewB (w.heap.size + 3) w5 (pl, a5, c5)) := Lib.hid ⟨o5, fun k hk => by
    rcases s5.blk k hk with h | h
    · simp [blk] at h; omega
    · omega⟩
  clear o5 m5 s5 HB1e HB2e HB3e MAe HE PL c8 hwe
  have f8 := free_of_block (i := 8) HB3f.out
  have z8 := cell_of_block (i := 8) HB3f.out
  simp only [List.getElem?_toArray, List.getElem?_cons_succ, List.getElem?_cons_zero] at z8
  have HO1 : Hid (OW w mm ⟨⟨kind, bn, br, first, last, commit⟩, none, 0, [], none, 0, [], pl, a5, c5⟩ (w5.setCell ⟨w.heap.size + 2, 8, none⟩ (.slice a5 pl.length c5))) := Lib.hid (by
    have k : Mod [w.heap.size + 2] w5 (w5.setCell ⟨w.heap.size + 2, 8, none⟩ (.slice a5 pl.length c5)) := Mod.setCell _ _ _ (by simp)
    refine ⟨?_, k.get HB2f.out (by simp), ?_, ⟨NewVs.nil _ _, NewBs.nil _ _, NB5.out.off k (by simp)⟩, MF.out.trans k (by simp)⟩
    · rw [HCM.out]
      exact k.get HB1f.out (by simp)
    · rw [HK1.out]
      exact heap_setCell_same HB3f.out _)
  clear HB1f HB2f HB3f MF NB5 HCM
  go_wp2_with fail
  clear f8 z8
  go_loopw [4] (fun s4 wr => ∃ (k : Nat) (ao : Option Addr) (ac : Nat) (l : List Vm), k ≤ votes.length ∧ s4 = .int .i64 (k : Int) ∧ l.length = k ∧ dV l = (dV votes).take k ∧ OW w mm ⟨⟨kind, bn, br, first, last, commit⟩, ao, ac, l, none, 0, [], pl, a5, c5⟩ wr) (fun s4 _ => votes.length - (intOf s4).toNat)
  case atStart => exact ⟨0, none, 0, [], Nat.zero_le _, rfl, rfl, rfl, HO1.out⟩
  case round =>
    obtain ⟨k, ao, ac, l, hk, rfl, hlk, hdl, how⟩ := hrel
    rename World => wr
    have O := Lib.hid how
    have HLK := Lib.hid hlk
    have HDL := Lib.hid hdl
    have HR1 := Lib.hid (how.b1)
    have HR3 := Lib.hid (how.b3)
    unfold mC at HR1 HR3
    rw [HK1.out] at HR3
    dsimp only at HR3
    rw [hlk] at HR3
    have e6 : mm.votes = votes ∧ mm.vo = vo ∧ mm.vc = vc ∧ mm.batches = batches ∧ mm.so = so ∧ mm.sc = sc := by rw [← HMM.out]; exact ⟨rfl, rfl, rfl, rfl, rfl, rfl⟩
    rw [e6.1, e6.2.1, e6.2.2.1, e6.2.2.2.1, e6.2.2.2.2.1, e6.2.2.2.2.2] at HR1
    have hzr := how.lt
    clear how hlk hdl HO1 e6
    have c6 := cell_of_block (i := 6) HR1.out
    simp only [List.getElem?_toArray, List.getElem?_cons_succ, List.getElem?_cons_zero] at c6
    by_cases hlt : k < votes.length
    case neg =>
      have hke : k = votes.length := by omega
      clear c6
      subst hke
      have HDV : Hid (dV l = dV votes) := Lib.hid (by rw [HDL.out, List.take_of_length_le (by rw [dV_length]; exact Nat.le_refl _)])
      have c6 := cell_of_block (i := 6) HR1.out
      simp only [List.getElem?_toArray, List.getElem?_cons_succ, List.getElem?_cons_zero] at c6
      clear HDL
      go_wp2_with fail
      clear c6
      go_loopw [6] (fun s6 wy => ∃ (k2 : Nat) (bo : Option Addr) (bc : Nat) (l2 : List Bs), k2 ≤ batches.length ∧ s6 = .int .i64 (k2 : Int) ∧ l2.length = k2 ∧ dB l2 = (dB batches).take k2 ∧ OW w mm ⟨⟨kind, bn, br, first, last, commit⟩, ao, ac, l, bo, bc, l2, pl, a5, c5⟩ wy) (fun s6 _ => batches.length - (intOf s6).toNat)
      case atStart => exact ⟨0, none, 0, [], Nat.zero_le _, rfl, rfl, rfl, O.out⟩
      case round =>
        obtain ⟨k2, bo, bc, l2, hk2, rfl, hlk2, hdl2, how2⟩ := hrel
        rename World => wy
        have Y := Lib.hid how2
        have HLK2 := Lib.hid hlk2
        have HDL2 := Lib.hid hdl2
        have HY1 := Lib.hid (how2.b1)
        have HY3 := Lib.hid (how2.b3)
        unfold mC at HY1 HY3
        rw [HK1.out] at HY3
        dsimp only at HY3
        rw [HLK.out, hlk2] at HY3
        have e6 : mm.votes = votes ∧ mm.vo = vo ∧ mm.vc = vc ∧ mm.batches = batches ∧ mm.so = so ∧ mm.sc = sc := by rw [← HMM.out]; exact ⟨rfl, rfl, rfl, rfl, rfl, rfl⟩
        rw [e6.1, e6.2.1, e6.2.2.1, e6.2.2.2.1, e6.2.2.2.2.1, e6.2.2.2.2.2] at HY1
        have hzy := how2.lt
        clear how2 hlk2 hdl2 O HR1 HR3 e6
        by_cases hlt2 : k2 < batches.length
        case neg =>
          have hke2 : k2 = batches.length := by omega
          subst hke2
          have HDB : Hid (dB l2 = dB batches) := Lib.hid (by rw [HDL2.out, List.take_of_length_le (by rw [dB_length]; exact Nat.le_refl _)])
          have c7 := cell_of_block (i := 7) HY1.out
          simp only [List.getElem?_toArray, List.getElem?_cons_succ, List.getElem?_cons_zero] at c7
          have HY2 := Lib.hid Y.out.b2
          have d0 := cell_of_block (i := 0) HY3.out
          have d1 := cell_of_block (i := 1) HY3.out
          have d2 := cell_of_block (i := 2) HY3.out
          have d3 := cell_of_block (i := 3) HY3.out
          have d4 := cell_of_block (i := 4) HY3.out
          have d5 := cell_of_block (i := 5) HY3.out
          have d6 := cell_of_block (i := 6) HY3.out
          have d7 := cell_of_block (i := 7) HY3.out
          have d8 := cell_of_block (i := 8) HY3.out
          simp only [List.getElem?_toArray, List.getElem?_cons_succ, List.getElem?_cons_zero] at d0 d1 d2 d3 d4 d5 d6 d7 d8
          have z0 := cell_of_block (i := 0) HY2.out
          have y0 := free_of_block (i := 0) HY2.out
          have z1 := cell_of_block (i := 1) HY2.out
          have y1 := free_of_block (i := 1) HY2.out
          have z2 := cell_of_block (i := 2) HY2.out
          have y2 := free_of_block (i := 2) HY2.out
          have z3 := cell_of_block (i := 3) HY2.out
          have y3 := free_of_block (i := 3) HY2.out
          have z4 := cell_of_block (i := 4) HY2.out
          have y4 := free_of_block (i := 4) HY2.out
          have z5 := cell_of_block (i := 5) HY2.out
          have y5 := free_of_block (i := 5) HY2.out
          have z6 := cell_of_block (i := 6) HY2.out
          have y6 := free_of_block (i := 6) HY2.out
          have z7 := cell_of_block (i := 7) HY2.out
          have y7 := free_of_block (i := 7) HY2.out
          have z8 := cell_of_block (i := 8) HY2.out
          have y8 := free_of_block (i := 8) HY2.out
          simp only [List.getElem?_toArray, List.getElem?_cons_succ, List.getElem?_cons_zero] at z0 z1 z2 z3 z4 z5 z6 z7 z8
          go_wp2_with fail
          ((try simp only [Exit.inBlock, Exit.then]); refine bodyPost_ret (by simp [results, Tryd.results12, go_sem, *]; try rfl) rfl ?_)
          refine ⟨⟨⟨kind, bn, br, first, last, commit⟩, ao, ac, l, bo, bc, l2, pl, a5, c5⟩, ?_, ?_, ?_, ?_⟩
          · unfold msgV mC
            dsimp only
            rw [HLK.out, HLK2.out]
          · rw [HD.out]
            unfold Mm.d
            dsimp only
            rw [HDV.out, HDB.out]
          · exact (Y.out.nm.off (S := [w.heap.size + 1]) (((((((((Mod.setCell _ _ _ (by simp)).trans' (Mod.setCell _ _ _ (by simp))).trans' (Mod.setCell _ _ _ (by simp))).trans' (Mod.setCell _ _ _ (by simp))).trans' (Mod.setCell _ _ _ (by simp))).trans' (Mod.setCell _ _ _ (by simp))).trans' (Mod.setCell _ _ _ (by simp))).trans' (Mod.setCell _ _ _ (by simp))).trans' (Mod.setCell _ _ _ (by simp))) (by simp)).grow (by omega)
          · exact Y.out.mod.trans (T := [w.heap.size + 1]) (((((((((Mod.setCell _ _ _ (by simp)).trans' (Mod.setCell _ _ _ (by simp))).trans' (Mod.setCell _ _ _ (by simp))).trans' (Mod.setCell _ _ _ (by simp))).trans' (Mod.setCell _ _ _ (by simp))).trans' (Mod.setCell _ _ _ (by simp))).trans' (Mod.setCell _ _ _ (by simp))).trans' (Mod.setCell _ _ _ (by simp))).trans' (Mod.setCell _ _ _ (by simp))) (by simp)
        have hlt3 : (k2 : Int) < (batches.length : Int) := by omega
        have c7' := cell_of_block (i := 7) HY1.out
        simp only [List.getElem?_toArray, List.getElem?_cons_succ, List.getElem?_cons_zero] at c7'
        go_upto_region 14 with (fail)
        clear c7'
        obtain ⟨b, off, rfl, hc⟩ := HSB.out.batch hlt2
        have hx9 := HFB.out _ (List.getElem_mem hlt2)
        have hst : (dB batches).take (k2 + 1) = (dB batches).take k2 ++ [batches[k2].1] := by
          rw [List.take_succ_eq_append_getElem (by rw [dB_length]; exact hlt2), dB_get batches k2 hlt2]
        obtain ⟨⟨x, xo, xc⟩, hx⟩ : ∃ x', batches[k2] = x' := ⟨_, rfl⟩
        rw [hx] at hst hx9 hc
        dsimp only at hst hx9 hc
        have HST := Lib.hid hst
        have HCC := Lib.hid hc
        clear hst hx hc
        refine restu_start 10 [] ((w.heap.size + 2) :: blk bo) 13 #[false, false, false, false, false, false, false, false, false, false, false, false, false] rfl (by kernel_rfl) (by kernel_rfl) ?_
        intro w6 m6
        have Y6 := Lib.hid (Y.out.still m6)
        have C7m := Lib.hid (cell_of_block (i := 7) (m6.get HY1.out List.not_mem_nil))
        have C7n := Lib.hid (cell_of_block (i := 7) (m6.get HY3.out List.not_mem_nil))
        have HY36 := Lib.hid (m6.get HY3.out List.not_mem_nil)
        obtain ⟨p0, px⟩ := HCC.out w6 Y6.out.mod
        have P0 := Lib.hid p0
        have PX := Lib.hid px
        have hz6 := Y6.out.lt
        have hbo : ∀ i, i ∈ blk bo → w.heap.size + 3 ≤ i := Y6.out.nm.batches.at'
        have hbl : ∀ i, i ∈ blk bo → i < w6.heap.size := Own.lt Y6.out.nm.batches.own
        clear m6 p0 px Y HY1 HY3 HCC
        refine restu_got (i := 0) (v := ?v1) rfl (by kernel_rfl) (by kernel_rfl) (by kernel_rfl) (by rfl) (fun _ _ _ h => h) (by rfl) ?y1 ?r1
        case y1 => (intro w9q hSwq; clear hSwq; go_simp; with_reducible rfl)
        try simp only [Act.put, List.setIfInBounds_toArray, List.set_cons_zero, List.set_cons_succ]
        refine restu_early (i := 1) [10, 11, 12] (v := ?v2) rfl (by kernel_rfl) (by kernel_rfl) (by kernel_rfl) (by rfl) (by kernel_rfl) (by rfl) (by kernel_rfl) (fun _ _ _ h => h) (by rfl) ?y2 ?r2
        case y2 => ((intro w9' hm9'; have hc9' := Mod.cell hm9' C7n.out (by first | exact List.not_mem_nil | assumption | (simp; done) | (simp; omega)); clear hm9'; go_simp; with_reducible rfl))
        try simp only [Act.put, List.setIfInBounds_toArray, List.set_cons_zero, List.set_cons_succ]
        refine restu_got (i := 3) (v := ?v3) rfl (by kernel_rfl) (by kernel_rfl) (by kernel_rfl) (by rfl) (fun _ _ _ h => h) (by rfl) ?y3 ?r3
        case y3 => (intro w9q hSwq; clear hSwq; go_simp; with_reducible rfl)
        try simp only [Act.put, List.setIfInBounds_toArray, List.set_cons_zero, List.set_cons_succ]
        refine restu_early (i := 4) [6, 7, 8, 9, 10, 11, 12] (v := ?v4) rfl (by kernel_rfl) (by kernel_rfl) (by kernel_rfl) (by rfl) (by kernel_rfl) (by rfl) (by kernel_rfl) (fun _ _ _ h => h) (by rfl) ?y4 ?r4
        case y4 => ((intro w9' hm9'; have hc9' := Mod.cell hm9' C7m.out (by first | exact List.not_mem_nil | assumption | (simp; done) | (simp; omega)); clear hm9'; go_simp; with_reducible rfl))
        try simp only [Act.put, List.setIfInBounds_toArray, List.set_cons_zero, List.set_cons_succ]
        refine restu_got (i := 5) (v := ?v5) rfl (by kernel_rfl) (by kernel_rfl) (by kernel_rfl) (by rfl) (fun _ _ _ h => h) (by rfl) ?y5 ?r5
        case y5 => (intro w9q hSwq; clear hSwq; go_simp; with_reducible rfl)
        try simp only [Act.put, List.setIfInBounds_toArray, List.set_cons_zero, List.set_cons_succ]
        refine restu_got (i := 6) (v := ?v6) rfl (by kernel_rfl) (by kernel_rfl) (by kernel_rfl) (by rfl) (fun _ _ _ h => h) (by rfl) ?y6 ?r6
        case y6 => (intro w9q hSwq; clear hSwq; go_simp; with_reducible rfl)
        try simp only [Act.put, List.setIfInBounds_toArray, List.set_cons_zero, List.set_cons_succ]
        refine restu_early (i := 7) [8, 9, 10, 11, 12] (v := ?v7) rfl (by kernel_rfl) (by kernel_rfl) (by kernel_rfl) (by rfl) (by kernel_rfl) (by rfl) (by kernel_rfl) (fun _ _ _ h => h) (by rfl) ?y7 ?r7
        case y7 => ((intro w9' hm9'; have hc9' := Mod.cell hm9' P0.out (by first | exact List.not_mem_nil | assumption | (simp; done) | (simp; omega)); clear hm9'; go_simp; with_reducible rfl))
        try simp only [Act.put, List.setIfInBounds_toArray, List.set_cons_zero, List.set_cons_succ]
        have me := Mod.alloc [] w6 (.cells #[] 5)
        have he := ob_empty w6
        obtain ⟨w7, hw7⟩ : ∃ x', w6.alloc (.cells #[] 5) = x' := ⟨_, rfl⟩
        have hz7 : w7.heap.size = w6.heap.size + 1 := by rw [← hw7]; simp
        rw [hw7] at me he
        have HE := Lib.hid he
        have PX7 := Lib.hid (PX.out.mod0 me)
        have HY37 := Lib.hid (me.get HY36.out List.not_mem_nil)
        refine restu_one (i := 2) (by kernel_rfl) rfl (by rfl) ?_
        go_wp2_with fail
        refine backu_to (K' := [w6.heap.size]) (K2' := w6.heap.size :: (w.heap.size + 2) :: blk bo) me.nil (by simp) (by simp) (fun i h h' => by simp at h; rcases h with h | h | h; omega; simp [h]; simp [h]) ?_
        have ME := Lib.hid me
        clear me he PX C7m C7n P0 hw7 HY36
        
        refine restu_one (i := 8) (by kernel_rfl) rfl (by rfl) ?_
        go_wp2_with (first | (at_builtin; refine wpl_app8 (dst := some 53) _ _ (some ⟨w6.heap.size, 0, none⟩) 0 0 [] rfl rfl HE.out xo x.length xc x rfl rfl PX7.out (by omega) ?_) | fail)
        intro a8 c8 w8 o8 m8 s8
        rw [List.nil_append] at o8
        have hm8 : Mod [w6.heap.size] w7 w8 := m8
        have NB8 : Hid (NewB (w.heap.size + 3) w8 (x, a8, c8)) := Lib.hid ⟨o8, fun i hi => by
          rcases s8.blk i hi with h | h
          · simp [blk] at h; omega
          · omega⟩
        have m68 : Mod [] w6 w8 := ME.out.trans hm8 (by simp)
        have Y8 := Lib.hid (Y6.out.still m68)
        have HY38 := Lib.hid (hm8.get HY37.out (by simp; omega))
        have hz68 := hm8.size
        go_wp2_with fail
        refine backu_to (K' := []) (K2' := (w.heap.size + 2) :: blk bo) hm8 (by simp) (by simp) (fun i h h' => by simp at h; rcases h with h | h; simp [h]; simp [h]) ?_
        clear o8 m8 s8 hm8 m68 Y6 HE PX7 HY37 ME
        
        have m9 := Mod.alloc [] w8 (.cells #[.slice a8 x.length c8] 27)
        have sh9 := shows_one (f := bsV) (x := ((x, a8, c8) : Bs)) (t := 27) (z := (0, 0)) (w := w8.alloc (.cells #[.slice a8 x.length c8] 27)) (g := w8.heap.size) (heap_alloc_new w8 _)
        obtain ⟨w9, hw9⟩ : ∃ x', w8.alloc (.cells #[.slice a8 x.length c8] 27) = x' := ⟨_, rfl⟩
        rw [hw9] at m9 sh9
        have SH9 := Lib.hid sh9
        have Y9 := Lib.hid (Y8.out.still m9)
        have NB9 := Lib.hid (NB8.out.mod0 m9)
        have HY39 := Lib.hid (m9.get HY38.out List.not_mem_nil)
        refine restu_one (i := 9) (by kernel_rfl) rfl (by rfl) ?_
        go_wp2_with fail
        refine backu_to (K' := []) (K2' := (w.heap.size + 2) :: blk bo) m9 (by simp) (by simp) (fun i h h' => h) ?_
        clear m9 sh9 Y8 NB8 HY38 hw9
        
        refine restu_one (i := 10) (by kernel_rfl) rfl (by rfl) ?_
        go_wp2_with (first | (at_builtin; refine wpl_appM (f := bsV) (dst := some 55) _ _ 26 _ 24 Tryd.underlying26 infoBs rfl (fun _ => rfl) k2 l2 rfl HLK2.out Y9.out.nm.batches.own _ 1 1 [((x, a8, c8) : Bs)] rfl rfl SH9.out (by omega) (by omega) ?_) | fail)
        intro a10 c10 w10 o10 m10 n10
        have hz9 := Y9.out.lt
        have NV10 := Lib.hid (Y9.out.nm.batches.app NB9.out o10 m10 n10 (by omega))
        have NP10 := Lib.hid (Y9.out.nm.snap.mod m10 (own_apart Y9.out.nm.snap.1 Y9.out.nm.batches.own (by decide)))
        have NW10 : Hid (NewVs (w.heap.size + 3) w10 ao ac l) := Lib.hid ⟨Own.mod Y9.out.nm.votes.own m10 (own_apart Y9.out.nm.votes.own Y9.out.nm.batches.own (by decide)), Y9.out.nm.votes.at', fun v hv => (Y9.out.nm.votes.el v hv).mod m10 (own_apart (Y9.out.nm.votes.el v hv).1 Y9.out.nm.batches.own (by decide))⟩
        have HY310 := Lib.hid (m10.get HY39.out (fun hi => by have := hbo _ hi; omega))
        have B1 := Lib.hid (m10.get Y9.out.b1 (fun hi => by have := hbo _ hi; omega))
        have B2 := Lib.hid (m10.get Y9.out.b2 (fun hi => by have := hbo _ hi; omega))
        have MM10 := Lib.hid (Y9.out.mod.trans m10 (fun i hi hl => by have := hbo i hi; omega))
        have f7 := free_of_block (i := 7) HY310.out
        have z7 := cell_of_block (i := 7) HY310.out
        simp only [List.getElem?_toArray, List.getElem?_cons_succ, List.getElem?_cons_zero] at z7
        have HLL : Hid ((l2 ++ [((x, a8, c8) : Bs)]).length = k2 + 1) := Lib.hid (by rw [List.length_append, HLK2.out]; rfl)
        have kk : Mod [w.heap.size + 2] w10 (w10.setCell ⟨w.heap.size + 2, 7, none⟩ (.slice a10 (k2 + 1) c10)) := Mod.setCell _ _ _ (by simp)
        have HO11 : Hid (OW w mm ⟨⟨kind, bn, br, first, last, commit⟩, ao, ac, l, a10, c10, l2 ++ [((x, a8, c8) : Bs)], pl, a5, c5⟩ (w10.setCell ⟨w.heap.size + 2, 7, none⟩ (.slice a10 (k2 + 1) c10))) := Lib.hid (by
          have hb := heap_setCell_same (i := 7) HY310.out (.slice a10 (k2 + 1) c10)
          refine ⟨kk.get B1.out (by simp), kk.get B2.out (by simp), ?_, ⟨NW10.out.off kk (by simp), NV10.out.off kk (by simp), NP10.out.off kk (by simp)⟩, MM10.out.trans kk (by simp)⟩
          rw [HK1.out]
          unfold mC
          dsimp only
          rw [HLL.out, HLK.out]
          simp only [List.setIfInBounds_toArray, List.set_cons_zero, List.set_cons_succ] at hb
          exact hb)
        have HDD : Hid (dB (l2 ++ [((x, a8, c8) : Bs)]) = (dB batches).take (k2 + 1)) := Lib.hid (by
          rw [HST.out, ← HDL2.out]
          unfold dB
          rw [List.map_append]
          rfl)
        have KK := Lib.hid kk
        go_wp2_with fail
        refine backm_to (K1 := [w.heap.size + 2]) (by kernel_rfl) (m10.weaken (fun j hj => by simp [hj])) (fun j hj _ => by simp at hj; simp [hj]) ?_
        clear o10 m10 n10 Y9 NB9 SH9 HY39 NV10 NP10 NW10 B1 B2 MM10 kk hz7 hzy hz6 hz68 hz9 hbl
        refine rest_got (i := 11) (v := ?v8) rfl (by kernel_rfl) (by kernel_rfl) (by kernel_rfl) (fun _ _ _ h => h) (by rfl) ?y8 ?r8
        case y8 => (intro w9q hSwq; clear hSwq; go_simp; with_reducible rfl)
        try simp only [Act.put, List.setIfInBounds_toArray, List.set_cons_zero, List.set_cons_succ]
        refine rest_one (i := 12) (by kernel_rfl) rfl (by rfl) ?_
        go_wp2_with fail
        refine back_to (K1 := []) KK.out (by simp) ?_
        clear KK f7 z7 HY310
        refine rest_done (by kernel_rfl) ?_ _
        go_wp2_with fail
        go_roundw
        case rel => exact ⟨k2 + 1, a10, c10, _, by omega, by go_num, HLL.out, HDD.out, HO11.out⟩
        case measure => simp [intOf]; omega
    have hlt2 : (k : Int) < (votes.length : Int) := by omega
    obtain ⟨b, off, rfl, hc⟩ := HSV.out.vote hlt
    obtain ⟨p0, p1, p2, p3, px⟩ := hc wr O.out.mod
    have hx9 := HFV.out _ (List.getElem_mem hlt)
    have hst : (dV votes).take (k + 1) = (dV votes).take k ++ [(votes[k].1, votes[k].2.1)] := by
      rw [List.take_succ_eq_append_getElem (by rw [dV_length]; exact hlt), dV_get votes k hlt]
    obtain ⟨⟨⟨sl, n1, r1⟩, x, xo, xc⟩, hx⟩ : ∃ x, votes[k] = x := ⟨_, rfl⟩
    rw [hx] at p0 p1 p2 p3 px hst hx9
    dsimp only at p0 p1 p2 p3 px hst hx9
    have HST := Lib.hid hst
    have PX := Lib.hid px
    clear hc hst hx px
    have mv := Mod.alloc [] wr (.cells #[.int .u64 0, .int .u64 0, .int .i64 0, .slice none 0 0] 52)
    have hbv := heap_alloc_new wr (.cells #[.int .u64 0, .int .u64 0, .int .i64 0, .slice none 0 0] 52)
    obtain ⟨wv, hwv⟩ : ∃ x, wr.alloc (.cells #[.int .u64 0, .int .u64 0, .int .i64 0, .slice none 0 0] 52) = x := ⟨_, rfl⟩
    rw [hwv] at mv hbv
    have z0 := cell_of_block (i := 0) hbv
    have y0 := free_of_block (i := 0) hbv
    have z1 := cell_of_block (i := 1) hbv
    have y1 := free_of_block (i := 1) hbv
    have z2 := cell_of_block (i := 2) hbv
    have y2 := free_of_block (i := 2) hbv
    have z3 := cell_of_block (i := 3) hbv
    have y3 := free_of_block (i := 3) hbv
    simp only [List.getElem?_toArray, List.getElem?_cons_succ, List.getElem?_cons_zero] at z0 z1 z2 z3
    go_upto_region 9 with (fail)
    obtain ⟨wx, hwx⟩ : ∃ x', ((((wv.setCell ⟨wr.heap.size, 0, none⟩ (.int .u64 (sl : Int))).setCell ⟨wr.heap.size, 1, none⟩ (.int .u64 (n1 : Int))).setCell ⟨wr.heap.size, 2, none⟩ (.int .i64 r1)).setCell ⟨wr.heap.size, 3, none⟩ (.slice xo x.length xc)) = x' := ⟨_, rfl⟩
    rw [hwx]
    have hbx : wx.heap[wr.heap.size]? = some (.cells #[.int .u64 (sl : Int), .int .u64 (n1 : Int), .int .i64 r1, .slice xo x.length xc] 52 (0, 0)) := by
      rw [← hwx]
      have h := (heap_setCell_same (i := 3) (heap_setCell_same (i := 2) (heap_setCell_same (i := 1) (heap_setCell_same (i := 0) hbv (.int .u64 (sl : Int))) (.int .u64 (n1 : Int))) (.int .i64 r1)) (.slice xo x.length xc))
      simp only [List.setIfInBounds_toArray, List.set_cons_zero, List.set_cons_succ] at h
      exact h
    have mx : Mod [] wr wx := by
      rw [← hwx]
      exact mv.trans (T := [wr.heap.size]) ((((Mod.setCell _ _ _ (by simp)).trans' (Mod.setCell _ _ _ (by simp))).trans' (Mod.setCell _ _ _ (by simp))).trans' (Mod.setCell _ _ _ (by simp))) (by simp)
    have me := Mod.alloc [] wx (.cells #[] 5)
    have he := ob_empty wx
    obtain ⟨we2, hwe⟩ : ∃ x, wx.alloc (.cells #[] 5) = x := ⟨_, rfl⟩
    have hze2 : we2.heap.size = wx.heap.size + 1 := by rw [← hwe]; simp
    rw [hwe] at me he
    have hlx := lt_of_block hbx
    have HE := Lib.hid he
    have HBX := Lib.hid (me.get hbx List.not_mem_nil)
    have MX := Lib.hid (mx.trans' me)
    have PX2 := Lib.hid (PX.out.mod0 MX.out)
    clear z0 z1 z2 z3 y0 y1 y2 y3 p0 p1 p2 p3 c6 hwx hbx mx me he mv hbv hwv PX
    have c3 := cell_of_block (i := 3) HBX.out
    simp only [List.getElem?_toArray, List.getElem?_cons_succ, List.getElem?_cons_zero] at c3
    go_wp2_with (first | (at_builtin; refine wpl_app8 (dst := some 30) _ _ (some ⟨wx.heap.size, 0, none⟩) 0 0 [] rfl rfl HE.out xo x.length xc x rfl rfl PX2.out (by omega) ?_) | fail)
    intro a6 c6 w6 o6 m6 s6
    rw [List.nil_append] at o6
    have HB6 := Lib.hid (m6.get HBX.out (by simp [blk]; omega))
    have M6 := Lib.hid (MX.out.trans m6 (fun i hi hl => by simp [blk] at hi; omega))
    have NB6 : Hid (NewB (wr.heap.size + 1) w6 (x, a6, c6)) := Lib.hid ⟨o6, fun k hk => by
      rcases s6.blk k hk with h | h
      · simp [blk] at h; omega
      · omega⟩
    clear o6 m6 s6 HBX MX HE PX2 c3 hwe
    have z3 := cell_of_block (i := 3) HB6.out
    have y3 := free_of_block (i := 3) HB6.out
    simp only [List.getElem?_toArray, List.getElem?_cons_succ, List.getElem?_cons_zero] at z3
    go_upto_region 10 with (fail)
    have m7 : Mod [wr.heap.size] w6 (w6.setCell ⟨wr.heap.size, 3, none⟩ (.slice a6 x.length c6)) := Mod.setCell _ _ _ (by simp)
    have hb7 := heap_setCell_same (i := 3) HB6.out (.slice a6 x.length c6)
    obtain ⟨w7, hw7⟩ : ∃ x', w6.setCell ⟨wr.heap.size, 3, none⟩ (.slice a6 x.length c6) = x' := ⟨_, rfl⟩
    rw [hw7] at m7 hb7
    rw [hw7]
    have HB7 : Hid (w7.heap[wr.heap.size]? = some (.cells #[.int .u64 (sl : Int), .int .u64 (n1 : Int), .int .i64 r1, .slice a6 x.length c6] 52 (0, 0))) := Lib.hid hb7
    have M7 := Lib.hid (M6.out.trans m7 (by simp))
    have NB7 := Lib.hid (NB6.out.off m7 (by simp))
    have O7 := Lib.hid (O.out.still M7.out)
    have HR37 := Lib.hid (M7.out.get HR3.out List.not_mem_nil)
    clear m7 hb7 HB6 M6 NB6 z3 y3 hw7
    have d0 := cell_of_block (i := 0) HB7.out
    have d1 := cell_of_block (i := 1) HB7.out
    have d2 := cell_of_block (i := 2) HB7.out
    have d3 := cell_of_block (i := 3) HB7.out
    simp only [List.getElem?_toArray, List.getElem?_cons_succ, List.getElem?_cons_zero] at d0 d1 d2 d3
    have c6' := cell_of_block (i := 6) HR37.out
    simp only [List.getElem?_toArray, List.getElem?_cons_succ, List.getElem?_cons_zero] at c6'
    have m8 := Mod.alloc [] w7 (.cells #[.int .u64 (sl : Int), .int .u64 (n1 : Int), .int .i64 r1, .slice a6 x.length c6] 52)
    have sh8 := showsV (x := ((⟨sl, n1, r1⟩, x, a6, c6) : Vm)) (t := 52) (z := (0, 0)) (w := w7.alloc (.cells #[.int .u64 (sl : Int), .int .u64 (n1 : Int), .int .i64 r1, .slice a6 x.length c6] 52)) (g := w7.heap.size) (heap_alloc_new w7 _)
    obtain ⟨w8, hw8⟩ : ∃ x', w7.alloc (.cells #[.int .u64 (sl : Int), .int .u64 (n1 : Int), .int .i64 r1, .slice a6 x.length c6] 52) = x' := ⟨_, rfl⟩
    rw [hw8] at m8 sh8
    have SH8 := Lib.hid sh8
    have O8 := Lib.hid (O7.out.still m8)
    have NB8 := Lib.hid ((NB7.out.mod0 m8).grow (B' := w.heap.size + 3) (by omega))
    have HR38 := Lib.hid (m8.get HR37.out List.not_mem_nil)
    have hol6 : k + 1 ≤ 1000000 := by omega
    clear m8 sh8 O7 NB7 HR37
    go_wp2_with (first | (at_builtin; refine wpl_appV (dst := some 36) _ _ ao k ac l rfl HLK.out O8.out.nm.votes.own _ ((⟨sl, n1, r1⟩, x, a6, c6) : Vm) rfl SH8.out hol6 ?_) | fail)
    intro a9 c9 w9 o9 m9 n9
    have hz8 := O8.out.lt
    have NV9 := Lib.hid (O8.out.nm.votes.app NB8.out o9 m9 n9 (by omega))
    have NP9 := Lib.hid (O8.out.nm.snap.mod m9 (own_apart O8.out.nm.snap.1 O8.out.nm.votes.own (by decide)))
    have HR39 := Lib.hid (m9.get HR38.out (fun hi => by have := O8.out.nm.votes.at' _ hi; omega))
    have O9' : Hid (∀ n : Mm, mC (.int .u8 (mm.h.kind : Int)) n = mC (.int .u8 (mm.h.kind : Int)) ⟨⟨kind, bn, br, first, last, commit⟩, ao, ac, l, none, 0, [], pl, a5, c5⟩ → NewM (w.heap.size + 3) w9 n → OW w mm n w9) := Lib.hid (fun n hn hnm => by
      have hv := O8.out.nm.votes.at'
      exact ⟨m9.get O8.out.b1 (fun hi => by have := hv _ hi; omega), m9.get O8.out.b2 (fun hi => by have := hv _ hi; omega), by rw [hn]; exact m9.get O8.out.b3 (fun hi => by have := hv _ hi; omega), hnm, O8.out.mod.trans m9 (fun i hi hl => by have := hv i hi; omega)⟩)
    have f6 := free_of_block (i := 6) HR39.out
    have z6 := cell_of_block (i := 6) HR39.out
    simp only [List.getElem?_toArray, List.getElem?_cons_succ, List.getElem?_cons_zero] at z6
    have HLL : Hid ((l ++ [((⟨sl, n1, r1⟩, x, a6, c6) : Vm)]).length = k + 1) := Lib.hid (by rw [List.length_append, HLK.out]; rfl)
    have HO10 : Hid (OW w mm ⟨⟨kind, bn, br, first, last, commit⟩, a9, c9, l ++ [((⟨sl, n1, r1⟩, x, a6, c6) : Vm)], none, 0, [], pl, a5, c5⟩ (w9.setCell ⟨w.heap.size + 2, 6, none⟩ (.slice a9 (k + 1) c9))) := Lib.hid (by
      have hv := O8.out.nm.votes.at'
      have kk : Mod [w.heap.size + 2] w9 (w9.setCell ⟨w.heap.size + 2, 6, none⟩ (.slice a9 (k + 1) c9)) := Mod.setCell _ _ _ (by simp)
      have hb := heap_setCell_same (i := 6) HR39.out (.slice a9 (k + 1) c9)
      refine ⟨kk.get (m9.get O8.out.b1 (fun hi => by have := hv _ hi; omega)) (by simp), kk.get (m9.get O8.out.b2 (fun hi => by have := hv _ hi; omega)) (by simp), ?_, ⟨NV9.out.off kk (by simp), NewBs.nil _ _, NP9.out.off kk (by simp)⟩, (O8.out.mod.trans m9 (fun i hi hl => by have := hv i hi; omega)).trans kk (by simp)⟩
      rw [HK1.out]
      unfold mC
      dsimp only
      rw [HLL.out]
      exact hb)
    have HDD : Hid (dV (l ++ [((⟨sl, n1, r1⟩, x, a6, c6) : Vm)]) = (dV votes).take (k + 1)) := Lib.hid (by
      rw [HST.out, ← HDL.out]
      unfold dV
      rw [List.map_append]
      rfl)
    clear o9 m9 n9 O8 NB8 SH8 HR38 NV9 NP9 HR39 O9' d0 d1 d2 d3 c6' hw8
    go_wp2_with fail
    go_roundw
    case rel => exact ⟨k + 1, a9, c9, _, by omega, by go_num, HLL.out, HDD.out, HO10.out⟩
    case measure => simp [intOf]; omega
end Go.Proofs.YtekdnljincbghaaDoor
/- The plain law of faults side by side: bits turned within 32 turn the checksum; the checksum is linear. No program in sight. -/
namespace Go.Proofs.YtekdnljincbghaaDoor
open Go Go.RowKit

/-- Bit r of a row of bytes is turned. -/
def turnU (x : UInt8) (i : Nat) : UInt8 := UInt8.ofNat (x.toNat ^^^ 2 ^ i)
def flip (l : List UInt8) (r : Nat) : List UInt8 := l.modify (r / 8) (fun x => turnU x (r % 8))
def mbit (m k : Nat) : Bool := bits BinOp.and IntKind.u32 ((m : Int) / 2 ^ k) 1 == 1
def Xs (l : List UInt8) (p m : Nat) : Nat → List UInt8
  | 0 => l
  | k + 1 => if mbit m k = true then flip (Xs l p m k) (p + k) else Xs l p m k
def Cs (m : Nat) : Nat → Bool
  | 0 => false
  | k + 1 => if mbit m k = true then true else Cs m k
theorem flip_length (l : List UInt8) (r : Nat) : (flip l r).length = l.length := by simp [flip]
theorem Xs_length (l : List UInt8) (p m k : Nat) : (Xs l p m k).length = l.length := by
  induction k with
  | zero => rfl
  | succ k ih => unfold Xs; split; rw [flip_length, ih]; exact ih
theorem turnU_toNat (x : UInt8) (i : Nat) (h : i < 8) : (turnU x i).toNat = x.toNat ^^^ 2 ^ i := by
  unfold turnU
  rw [UInt8.toNat_ofNat']
  have h1 := x.toNat_lt
  have h2 : 2 ^ i < 2 ^ 8 := Nat.pow_lt_pow_right (by omega) h
  have := Nat.xor_lt_two_pow h1 h2
  exact Nat.mod_eq_of_lt this
/-- As the walk writes it. -/
theorem turn_walk (x : UInt8) (i : Nat) (h : i < 8) : bits BinOp.xor IntKind.u8 (x.toNat : Int) (IntKind.u8.wrap (2 ^ i)) = ((turnU x i).toNat : Int) := by
  have h2 : 2 ^ i < 256 := Nat.lt_of_lt_of_le (Nat.pow_lt_pow_right (by omega) h) (by omega)
  have e : IntKind.u8.wrap (2 ^ i) = ((2 ^ i : Nat) : Int) := by
    rw [IntKind.wrap_u8']
    have : ((2 : Int) ^ i) = ((2 ^ i : Nat) : Int) := by simp
    rw [this]
    generalize 2 ^ i = q at h2 ⊢
    omega
  rw [e, u8_xor_nat _ _ x.toNat_lt h2, turnU_toNat x i h]
theorem flip_set (l : List UInt8) (r : Nat) (h : r / 8 < l.length) : flip l r = l.set (r / 8) (turnU l[r / 8] (r % 8)) := by
  unfold flip
  apply List.ext_getElem?
  intro i
  rw [List.getElem?_modify, List.getElem?_set]
  by_cases e : r / 8 = i
  · subst e; simp [h]
  · simp [e]

theorem byteB_lin (a b : B32) (x : UInt8) : byteB (a ^^^ b) x = byteB a x ^^^ stn 8 b := by
  unfold byteB
  rw [show a ^^^ b ^^^ BitVec.ofNat 32 x.toNat = (a ^^^ BitVec.ofNat 32 x.toNat) ^^^ b by ac_rfl, stn_xor]
theorem foldB_lin (a b : B32) (l : List UInt8) : foldB (a ^^^ b) l = foldB a l ^^^ stn (8 * l.length) b := by
  induction l generalizing a b with
  | nil => simp [foldB, stn]
  | cons x l ih =>
    show foldB (byteB (a ^^^ b) x) l = foldB (byteB a x) l ^^^ _
    rw [byteB_lin, ih, ← stn_add]
    congr 2
    simp only [List.length_cons]; omega
theorem pow_stepC (i : Nat) (h : i < 8) : stn 8 (BitVec.ofNat 32 (2 ^ i)) = stn (8 - i) 1#32 := by
  have : ∀ n : Fin 8, stn 8 (BitVec.ofNat 32 (2 ^ n.val)) = stn (8 - n.val) 1#32 := by decide +kernel
  exact this ⟨i, h⟩
theorem ofNat_xor (a b : Nat) : BitVec.ofNat 32 (a ^^^ b) = BitVec.ofNat 32 a ^^^ BitVec.ofNat 32 b := by
  apply BitVec.eq_of_getLsbD_eq
  intro i hi
  simp [BitVec.getLsbD_xor, BitVec.getLsbD_ofNat, hi]
theorem byteB_turn (c : B32) (x : UInt8) (i : Nat) (h : i < 8) : byteB c (turnU x i) = byteB c x ^^^ stn (8 - i) 1#32 := by
  unfold byteB
  rw [turnU_toNat x i h, ofNat_xor, ← BitVec.xor_assoc, stn_xor, pow_stepC i h]
theorem foldB_flip (l : List UInt8) : ∀ (c : B32) (r : Nat), r < 8 * l.length → foldB c (flip l r) = foldB c l ^^^ stn (8 * l.length - r) 1#32 := by
  induction l with
  | nil => intro c r h; simp at h
  | cons x l ih =>
    intro c r h
    simp only [List.length_cons] at h ⊢
    by_cases h8 : r < 8
    · have e1 : r / 8 = 0 := by omega
      have e2 : r % 8 = r := by omega
      have e3 : flip (x :: l) r = turnU x r :: l := by unfold flip; rw [e1, e2]; rfl
      rw [e3]
      show foldB (byteB c (turnU x r)) l = foldB (byteB c x) l ^^^ _
      rw [byteB_turn c x r h8, foldB_lin, ← stn_add]
      congr 2
      omega
    · have e1 : r / 8 = (r - 8) / 8 + 1 := by omega
      have e2 : r % 8 = (r - 8) % 8 := by omega
      have e3 : flip (x :: l) r = x :: flip l (r - 8) := by unfold flip; rw [e1, e2]; rfl
      rw [e3]
      show foldB (byteB c x) (flip l (r - 8)) = foldB (byteB c x) l ^^^ _
      rw [ih _ _ (by omega)]
      congr 2
      omega

/-- The mask's first k bits. -/
def Ms (m : Nat) : Nat → B32
  | 0 => 0#32
  | k + 1 => if mbit m k = true then Ms m k ^^^ (1#32 <<< k) else Ms m k
theorem stn_one (k : Nat) (h : k < 32) : stn k (1#32 <<< k) = 1#32 := by
  have : ∀ n : Fin 32, stn n.val (1#32 <<< n.val) = 1#32 := by decide +kernel
  exact this ⟨k, h⟩
theorem fold_Xs (l : List UInt8) (p m : Nat) (c : B32) : ∀ k, k ≤ 32 → (k = 0 ∨ p + k ≤ 8 * l.length) → foldB c (Xs l p m k) = foldB c l ^^^ stn (8 * l.length - p) (Ms m k) := by
  intro k
  induction k with
  | zero => intro _ _; simp [Xs, Ms, stn_zero]
  | succ k ih =>
    intro h1 h2
    have h2' : p + k < 8 * l.length := by omega
    have ih' := ih (by omega) (by omega)
    unfold Xs Ms
    split
    · rw [foldB_flip _ _ _ (by rw [Xs_length]; omega), ih', Xs_length, stn_xor, BitVec.xor_assoc]
      congr 2
      rw [show 8 * l.length - p = k + (8 * l.length - (p + k)) by omega, stn_add, stn_one k (by omega)]
    · exact ih'
theorem Ms_bit (m : Nat) : ∀ k, k ≤ 32 → ∀ j, j < 32 → (Ms m k).getLsbD j = (decide (j < k) && mbit m j) := by
  intro k
  induction k with
  | zero => intro _ j hj; simp [Ms]
  | succ k ih =>
    intro hk j hj
    have ih' := ih (by omega) j hj
    unfold Ms
    have hb : (1#32 <<< k).getLsbD j = decide (j = k) := by
      simp only [BitVec.getLsbD_shiftLeft, hj, decide_true, Bool.true_and]
      by_cases h : j < k
      · have : ¬ j = k := by omega
        simp [h, this]
      · by_cases h' : j = k
        · subst h'; simp
        · have : j - k ≠ 0 := by omega
          simp [h, h', this]
    split
    · rename_i hm
      rw [BitVec.getLsbD_xor, ih', hb]
      by_cases h : j = k
      · subst h; simp [hm]
      · by_cases h' : j < k
        · have : j < k + 1 := by omega
          simp [h, h', this]
        · have : ¬ j < k + 1 := by omega
          simp [h, h', this]
    · rename_i hm
      rw [ih']
      by_cases h : j = k
      · subst h; simp at hm; simp [hm]
      · by_cases h' : j < k
        · have : j < k + 1 := by omega
          simp [h', this]
        · have : ¬ j < k + 1 := by omega
          simp [h', this]
theorem Cs_iff (m k : Nat) : Cs m k = false ↔ ∀ j, j < k → mbit m j = false := by
  induction k with
  | zero => simp [Cs]
  | succ k ih =>
    unfold Cs
    split
    · rename_i hm
      constructor
      · intro h; cases h
      · intro h; rw [h k (by omega)] at hm; cases hm
    · rename_i hm
      rw [ih]
      constructor
      · intro h j hj
        by_cases hjk : j = k
        · subst hjk; simpa using hm
        · exact h j (by omega)
      · intro h j hj; exact h j (by omega)
theorem Ms_zero (m k : Nat) (hk : k ≤ 32) : Ms m k = 0#32 ↔ Cs m k = false := by
  rw [Cs_iff]
  constructor
  · intro h j hj
    have := Ms_bit m k hk j (by omega)
    rw [h] at this
    simpa [hj] using this.symm
  · intro h
    apply BitVec.eq_of_getLsbD_eq
    intro j hj
    rw [Ms_bit m k hk j hj]
    by_cases hjk : j < k
    · simp [h j hjk]
    · simp [hjk]
/-- FAULTS WITHIN 32 BITS ARE FOUND. -/
theorem burst (l : List UInt8) (p m k : Nat) (hk : k ≤ 32) (hp : k = 0 ∨ p + k ≤ 8 * l.length) : (moreC T0 0 (Xs l p m k) != moreC T0 0 l) = Cs m k := by
  rw [sum_B T0 (fun _ _ => rfl), sum_B T0 (fun _ _ => rfl)]
  have hone : ∀ a b : B32, (ofB a != ofB b) = (a != b) := by
    intro a b
    rw [Bool.eq_iff_iff, bne_iff_ne, bne_iff_ne]
    constructor
    · intro h h'; exact h (by rw [h'])
    · intro h h'; exact h (by rw [← toB_ofB a, h', toB_ofB])
  rw [hone]
  unfold crcB
  rw [fold_Xs l p m _ k hk hp]
  cases hc : Cs m k with
  | false => rw [(Ms_zero m k hk).2 hc, stn_zero]; simp
  | true =>
    rw [bne_iff_ne]
    intro h
    have h1 : stn (8 * l.length - p) (Ms m k) = 0#32 := by
      have h2 := congrArg (fun z => (foldB 0xffffffff#32 l) ^^^ (z ^^^ 0xffffffff#32)) h
      have e1 : foldB 0xffffffff#32 l ^^^ (foldB 0xffffffff#32 l ^^^ stn (8 * l.length - p) (Ms m k) ^^^ 0xffffffff#32 ^^^ 0xffffffff#32) = stn (8 * l.length - p) (Ms m k) := by
        rw [BitVec.xor_assoc _ 0xffffffff#32, BitVec.xor_self, BitVec.xor_zero, ← BitVec.xor_assoc, BitVec.xor_self, BitVec.zero_xor]
      have e2 : foldB 0xffffffff#32 l ^^^ (foldB 0xffffffff#32 l ^^^ 0xffffffff#32 ^^^ 0xffffffff#32) = 0#32 := by
        rw [BitVec.xor_assoc _ 0xffffffff#32, BitVec.xor_self, BitVec.xor_zero, BitVec.xor_self]
      rw [← e1, ← e2]
      exact h2
    have := (Ms_zero m k hk).1 (stn_inj0 _ _ h1)
    rw [hc] at this; cases this

/-- Rows over one another. -/
def xorU (x y : UInt8) : UInt8 := UInt8.ofNat (x.toNat ^^^ y.toNat)
theorem xorU_toNat (x y : UInt8) : (xorU x y).toNat = x.toNat ^^^ y.toNat := by
  unfold xorU
  rw [UInt8.toNat_ofNat']
  exact Nat.mod_eq_of_lt (Nat.xor_lt_two_pow x.toNat_lt y.toNat_lt)
theorem xor_walk (x y : UInt8) : bits BinOp.xor IntKind.u8 (x.toNat : Int) (y.toNat : Int) = ((xorU x y).toNat : Int) := by
  rw [u8_xor_nat _ _ x.toNat_lt y.toNat_lt, xorU_toNat]
def zipX (a b : List UInt8) : List UInt8 := List.zipWith xorU a b
theorem foldB_zip (a : List UInt8) : ∀ (b : List UInt8) (c d e : B32), a.length = b.length →
    foldB c a ^^^ foldB d b ^^^ foldB e (List.replicate a.length 0) = foldB (c ^^^ d ^^^ e) (zipX a b) := by
  induction a with
  | nil => intro b c d e h; cases b with
    | nil => simp [foldB, zipX]
    | cons y b => simp at h
  | cons x a ih =>
    intro b c d e h
    cases b with
    | nil => simp at h
    | cons y b =>
      show foldB (byteB c x) a ^^^ foldB (byteB d y) b ^^^ foldB (byteB e 0) (List.replicate a.length 0) = foldB (byteB (c ^^^ d ^^^ e) (xorU x y)) (zipX a b)
      rw [ih b _ _ _ (by simpa using h)]
      congr 1
      unfold byteB
      rw [xorU_toNat, ofNat_xor, ← stn_xor, ← stn_xor]
      congr 1
      show _ ^^^ (e ^^^ BitVec.ofNat 32 0) = _
      have : BitVec.ofNat 32 0 = 0#32 := rfl
      rw [this, BitVec.xor_zero]
      ac_rfl
/-- SUMS OVER ONE ANOTHER. -/
theorem linear (a b : List UInt8) (h : a.length = b.length) :
    bits BinOp.xor IntKind.u32 (bits BinOp.xor IntKind.u32 (moreC T0 0 a) (moreC T0 0 b)) (moreC T0 0 (List.replicate a.length 0)) = moreC T0 0 (zipX a b) := by
  have hT : ∀ i, i < 16 → T0 i = T0 i := fun _ _ => rfl
  rw [sum_B T0 hT, sum_B T0 hT, sum_B T0 hT, sum_B T0 hT, bits_xor_B, bits_xor_B, toB_ofB, toB_ofB, toB_ofB, toB_ofB]
  congr 1
  unfold crcB
  have e := foldB_zip a b 0xffffffff#32 0xffffffff#32 0xffffffff#32 h
  have e1 : (0xffffffff#32 : B32) ^^^ 0xffffffff#32 ^^^ 0xffffffff#32 = 0xffffffff#32 := by decide
  rw [e1] at e
  rw [← e]
  generalize foldB 0xffffffff#32 a = A
  generalize foldB 0xffffffff#32 b = B
  generalize foldB 0xffffffff#32 (List.replicate a.length 0) = C
  have : A ^^^ 0xffffffff#32 ^^^ (B ^^^ 0xffffffff#32) ^^^ (C ^^^ 0xffffffff#32) = (A ^^^ B ^^^ C) ^^^ ((0xffffffff#32 : B32) ^^^ 0xffffffff#32 ^^^ 0xffffffff#32) := by ac_rfl
  rw [this, e1]
/-- The first k of n bytes laid over one another, then zeros. -/
def Zs (a b : List UInt8) (n k : Nat) : List UInt8 := zipX (a.take k) (b.take k) ++ List.replicate (n - k) 0
theorem Zs_length (a b : List UInt8) (n k : Nat) (ha : n ≤ a.length) (hb : n ≤ b.length) (hk : k ≤ n) : (Zs a b n k).length = n := by
  simp [Zs, zipX]; omega
theorem Zs_succ (a b : List UInt8) (n k : Nat) (ha : n ≤ a.length) (hb : n ≤ b.length) (hk : k < n) : (Zs a b n k).set k (xorU a[k] b[k]) = Zs a b n (k + 1) := by
  unfold Zs
  have hl : (zipX (a.take k) (b.take k)).length = k := by simp [zipX]; omega
  have e1 : zipX (a.take (k + 1)) (b.take (k + 1)) = zipX (a.take k) (b.take k) ++ [xorU a[k] b[k]] := by
    unfold zipX
    rw [take_snoc a k (by omega), take_snoc b k (by omega), List.zipWith_append (by simp; omega)]
    rfl
  rw [e1, List.set_append_right k _ (by omega), hl, Nat.sub_self]
  have e2 : List.replicate (n - k) (0 : UInt8) = 0 :: List.replicate (n - (k + 1)) 0 := by
    rw [show n - k = (n - (k + 1)) + 1 by omega]; rfl
  rw [e2, List.set_cons_zero, List.append_assoc]
  rfl
theorem Zs_all (a b : List UInt8) (n : Nat) : Zs a b n n = zipX (a.take n) (b.take n) := by simp [Zs]
theorem Zs_zero (a b : List UInt8) (n : Nat) : Zs a b n 0 = List.replicate n 0 := by simp [Zs, zipX]
end Go.Proofs.YtekdnljincbghaaDoor
/- What is put is taken, and nothing else: plain laws of messages' bytes. -/
namespace Go.Proofs.YtekdnljincbghaaDoor
open Go Go.RowKit Go.Lib

/-- All is as it must be. -/
def Good (s : St) : Prop := s.e = 0 ∧ s.bad = false
/-- What f reads, enc writes. -/
def Reads {α : Type} (f : St → α × St) (enc : α → List UInt8) : Prop := ∀ s x s1, f s = (x, s1) → Good s1 → Good s ∧ s.l = enc x ++ s1.l
theorem uintE_errM {e : Int} {l : List UInt8} (h : e ≠ 0) : uintE 10 0 0 e l = (0, e, l) := by
  unfold uintE
  rw [if_neg h]
theorem uintE_good {e : Int} {l r : List UInt8} {n : Nat} (h : uintE 10 0 0 e l = (n, 0, r)) : e = 0 ∧ l = enc7 n ++ r := by
  by_cases he : e = 0
  · subst he
    exact ⟨rfl, uintE_read n l r h⟩
  · rw [uintE_errM he] at h
    simp only [Prod.mk.injEq] at h
    exact absurd h.2.1 he
theorem uint_reads : Reads St.uint enc7 := by
  intro s x s1 h hg
  obtain ⟨e, l, bad⟩ := s
  unfold St.uint at h
  dsimp only at h
  obtain ⟨⟨n, e2, l2⟩, hu⟩ : ∃ p, uintE 10 0 0 e l = p := ⟨_, rfl⟩
  rw [hu] at h
  dsimp only at h
  simp only [Prod.mk.injEq] at h
  obtain ⟨rfl, rfl⟩ := h
  obtain ⟨h1, h2⟩ := hg
  dsimp only at h1 h2
  subst h1
  obtain ⟨h3, h4⟩ := uintE_good hu
  exact ⟨⟨h3, h2⟩, h4⟩
theorem takeB_read {e : Int} {l l2 : List UInt8} {n r : Nat} (h : takeB e l = (n, r, 0, 0, l2)) : e = 0 ∧ l = enc7 n ++ (enc7 r ++ l2) ∧ r ≤ 6 := by
  unfold takeB at h
  obtain ⟨⟨n1, e1, l1⟩, hu1⟩ : ∃ p, uintE 10 0 0 e l = p := ⟨_, rfl⟩
  rw [hu1] at h
  dsimp only at h
  obtain ⟨⟨n2, e2, l3⟩, hu2⟩ : ∃ p, uintE 10 0 0 e1 l1 = p := ⟨_, rfl⟩
  rw [hu2] at h
  dsimp only at h
  by_cases h2 : e2 = 0
  · subst h2
    rw [if_neg (by simp)] at h
    by_cases h7 : 7 ≤ n2
    · rw [if_pos h7] at h
      simp only [Prod.mk.injEq] at h
      omega
    · rw [if_neg h7] at h
      simp only [Prod.mk.injEq] at h
      obtain ⟨rfl, rfl, _, _, rfl⟩ := h
      obtain ⟨h3, h4⟩ := uintE_good hu2
      subst h3
      obtain ⟨h5, h6⟩ := uintE_good hu1
      exact ⟨h5, by rw [h6, h4], by omega⟩
  · rw [if_pos h2] at h
    simp only [Prod.mk.injEq] at h
    exact absurd h.2.2.1 h2
theorem ball_reads : Reads St.ball (fun p => ballB p.1 (p.2 : Int)) := by
  intro s x s1 h hg
  obtain ⟨e, l, bad⟩ := s
  unfold St.ball at h
  dsimp only at h
  obtain ⟨⟨n, r, er, e2, l2⟩, hu⟩ : ∃ p, takeB e l = p := ⟨_, rfl⟩
  rw [hu] at h
  dsimp only at h
  simp only [Prod.mk.injEq] at h
  obtain ⟨rfl, rfl⟩ := h
  obtain ⟨h1, h2⟩ := hg
  dsimp only at h1 h2
  subst h1
  rw [Bool.or_eq_false_iff] at h2
  obtain ⟨h2, h3⟩ := h2
  have h3' : er = 0 := by simpa using h3
  subst h3'
  obtain ⟨h4, h5, _⟩ := takeB_read hu
  refine ⟨⟨h4, h2⟩, ?_⟩
  unfold ballB
  dsimp only
  rw [h5, Int.toNat_natCast, List.append_assoc]
theorem text_reads (lim : Int) : Reads (St.text lim) txL := by
  intro s x s1 h hg
  obtain ⟨e, l, bad⟩ := s
  unfold St.text textR at h
  dsimp only at h
  obtain ⟨⟨n, e2, l2⟩, hu⟩ : ∃ p, uintE 10 0 0 e l = p := ⟨_, rfl⟩
  rw [hu] at h
  dsimp only at h
  by_cases h2 : e2 = 0
  · subst h2
    obtain ⟨h3, h4⟩ := uintE_good hu
    rw [if_neg (by simp)] at h
    by_cases h5 : max lim 0 < (n : Int)
    · rw [if_pos h5] at h
      simp only [Prod.mk.injEq] at h
      obtain ⟨rfl, rfl⟩ := h
      exact absurd hg.1 (by show ¬ (11 : Int) = 0; decide)
    · rw [if_neg h5] at h
      by_cases h6 : l2.length < n
      · rw [if_pos h6] at h
        simp only [Prod.mk.injEq] at h
        obtain ⟨rfl, rfl⟩ := h
        exact absurd hg.1 (by show ¬ (10 : Int) = 0; decide)
      · rw [if_neg h6] at h
        simp only [Prod.mk.injEq] at h
        obtain ⟨rfl, rfl⟩ := h
        refine ⟨⟨h3, hg.2⟩, ?_⟩
        dsimp only
        unfold txL
        rw [List.length_take, Nat.min_eq_left (by omega), h4, List.append_assoc, List.take_append_drop]
  · rw [if_pos h2] at h
    simp only [Prod.mk.injEq] at h
    obtain ⟨rfl, rfl⟩ := h
    exact absurd hg.1 h2
theorem vote_reads (lim : Int) : Reads (St.vote lim) voteB := by
  intro s x s1 h hg
  unfold St.vote at h
  obtain ⟨⟨n1, sa⟩, hu1⟩ : ∃ p, s.uint = p := ⟨_, rfl⟩
  rw [hu1] at h
  dsimp only at h
  obtain ⟨⟨⟨n2, r2⟩, sb⟩, hu2⟩ : ∃ p, sa.ball = p := ⟨_, rfl⟩
  rw [hu2] at h
  dsimp only at h
  obtain ⟨⟨t, sc⟩, hu3⟩ : ∃ p, sb.text lim = p := ⟨_, rfl⟩
  rw [hu3] at h
  dsimp only at h
  simp only [Prod.mk.injEq] at h
  obtain ⟨rfl, rfl⟩ := h
  obtain ⟨g3, e3⟩ := text_reads lim _ _ _ hu3 hg
  obtain ⟨g2, e2⟩ := ball_reads _ _ _ hu2 g3
  obtain ⟨g1, e1⟩ := uint_reads _ _ _ hu1 g2
  refine ⟨g1, ?_⟩
  dsimp only at e2
  unfold voteB
  dsimp only
  rw [e1, e2, e3, List.append_assoc, List.append_assoc]
theorem rep_reads {α : Type} {f : St → α × St} {enc : α → List UInt8} (h : Reads f enc) (k : Nat) : ∀ (s : St) (l : List α) (s1 : St), St.rep f k s = (l, s1) → Good s1 → Good s ∧ s.l = l.flatMap enc ++ s1.l ∧ l.length = k := by
  induction k with
  | zero =>
    intro s l s1 h1 hg
    simp only [St.rep, Prod.mk.injEq] at h1
    obtain ⟨rfl, rfl⟩ := h1
    exact ⟨hg, by simp, rfl⟩
  | succ k ih =>
    intro s l s1 h1 hg
    rw [rep_succ] at h1
    obtain ⟨⟨l0, s0⟩, hr⟩ : ∃ p, St.rep f k s = p := ⟨_, rfl⟩
    rw [hr] at h1
    dsimp only at h1
    obtain ⟨⟨x, s2⟩, hx⟩ : ∃ p, f s0 = p := ⟨_, rfl⟩
    rw [hx] at h1
    dsimp only at h1
    simp only [Prod.mk.injEq] at h1
    obtain ⟨rfl, rfl⟩ := h1
    obtain ⟨g0, e0⟩ := h _ _ _ hx hg
    obtain ⟨g1, e1, n1⟩ := ih _ _ _ hr g0
    refine ⟨g1, ?_, by simp [n1]⟩
    rw [e1, e0, List.flatMap_append]
    simp
theorem rows_reads {α : Type} {f : St → α × St} {enc : α → List UInt8} (h : Reads f enc) (most : Nat) : Reads (St.rows most f) (fun l => enc7 l.length ++ l.flatMap enc) := by
  intro s l s1 h1 hg
  unfold St.rows at h1
  obtain ⟨⟨n, sa⟩, hu⟩ : ∃ p, s.uint = p := ⟨_, rfl⟩
  rw [hu] at h1
  dsimp only at h1
  split at h1
  · simp only [Prod.mk.injEq] at h1
    obtain ⟨rfl, rfl⟩ := h1
    exact absurd hg.2 (by simp)
  · obtain ⟨g0, e0, n0⟩ := rep_reads h n _ _ _ h1 hg
    obtain ⟨g1, e1⟩ := uint_reads _ _ _ hu g0
    refine ⟨g1, ?_⟩
    dsimp only
    rw [e1, e0, n0, List.append_assoc]
/-- The letters. -/
def Letter (c : UInt8) : Prop := c = 98 ∨ c = 99 ∨ c = 102 ∨ c = 108 ∨ c = 112 ∨ c = 115 ∨ c = 118
theorem setF_reads (lim : Int) (c : UInt8) (hc : Letter c) (x : Md × St) (d1 : Md) (s1 : St) (h : setF lim c x = (d1, s1)) (hg : Good s1) : Good x.2 ∧ x.2.l = fieldB d1 c ++ s1.l := by
  obtain ⟨d0, s⟩ := x
  rcases hc with rfl | rfl | rfl | rfl | rfl | rfl | rfl
  · unfold setF at h
    rw [if_pos rfl] at h
    simp only [Prod.mk.injEq] at h
    obtain ⟨rfl, h⟩ := h
    exact ball_reads s s.ball.1 s1 (by rw [← h]) hg
  · unfold setF at h
    rw [if_neg (by decide), if_pos rfl] at h
    simp only [Prod.mk.injEq] at h
    obtain ⟨rfl, h⟩ := h
    exact uint_reads s s.uint.1 s1 (by rw [← h]) hg
  · unfold setF at h
    rw [if_neg (by decide), if_neg (by decide), if_pos rfl] at h
    simp only [Prod.mk.injEq] at h
    obtain ⟨rfl, h⟩ := h
    exact uint_reads s s.uint.1 s1 (by rw [← h]) hg
  · unfold setF at h
    rw [if_neg (by decide), if_neg (by decide), if_neg (by decide), if_pos rfl] at h
    simp only [Prod.mk.injEq] at h
    obtain ⟨rfl, h⟩ := h
    exact uint_reads s s.uint.1 s1 (by rw [← h]) hg
  · unfold setF at h
    rw [if_neg (by decide), if_neg (by decide), if_neg (by decide), if_neg (by decide), if_pos rfl] at h
    simp only [Prod.mk.injEq] at h
    obtain ⟨rfl, h⟩ := h
    exact text_reads lim s (s.text lim).1 s1 (by rw [← h]) hg
  · unfold setF at h
    rw [if_neg (by decide), if_neg (by decide), if_neg (by decide), if_neg (by decide), if_neg (by decide), if_pos rfl] at h
    simp only [Prod.mk.injEq] at h
    obtain ⟨rfl, h⟩ := h
    exact rows_reads (text_reads lim) 16 s (s.rows 16 (St.text lim)).1 s1 (by rw [← h]) hg
  · unfold setF at h
    rw [if_neg (by decide), if_neg (by decide), if_neg (by decide), if_neg (by decide), if_neg (by decide), if_neg (by decide), if_pos rfl] at h
    simp only [Prod.mk.injEq] at h
    obtain ⟨rfl, h⟩ := h
    exact rows_reads (vote_reads lim) 256 s (s.rows 256 (St.vote lim)).1 s1 (by rw [← h]) hg
theorem setF_other (lim : Int) (c c' : UInt8) (hc : Letter c) (hc' : Letter c') (hne : c ≠ c') (x : Md × St) : fieldB (setF lim c' x).1 c = fieldB x.1 c := by
  rcases hc with rfl | rfl | rfl | rfl | rfl | rfl | rfl <;> rcases hc' with rfl | rfl | rfl | rfl | rfl | rfl | rfl <;> first | rfl | exact absurd rfl hne
theorem takeF_other (lim : Int) (c : UInt8) (hc : Letter c) : ∀ (l : List UInt8) (x : Md × St), (∀ c' ∈ l, Letter c') → c ∉ l → fieldB (takeF lim l x).1 c = fieldB x.1 c := by
  intro l
  induction l with
  | nil => intro x _ _; rfl
  | cons c' l ih =>
    intro x hl hn
    show fieldB (takeF lim l (setF lim c' x)).1 c = _
    rw [ih _ (fun y hy => hl y (by simp [hy])) (fun h => hn (by simp [h])), setF_other lim c c' hc (hl c' (by simp)) (fun h => hn (by simp [h]))]
theorem takeF_reads (lim : Int) : ∀ (l : List UInt8) (x : Md × St) (d : Md) (s : St), (∀ c ∈ l, Letter c) → l.Nodup → takeF lim l x = (d, s) → Good s → Good x.2 ∧ x.2.l = l.flatMap (fieldB d) ++ s.l := by
  intro l
  induction l with
  | nil =>
    intro x d s _ _ h hg
    have h' : x = (d, s) := h
    subst h'
    exact ⟨hg, rfl⟩
  | cons c l ih =>
    intro x d s hl hn h hg
    obtain ⟨⟨d1, s1⟩, h1⟩ : ∃ p, setF lim c x = p := ⟨_, rfl⟩
    have h2 : takeF lim l (d1, s1) = (d, s) := by rw [← h1]; exact h
    rw [List.nodup_cons] at hn
    obtain ⟨g1, e1⟩ := ih (d1, s1) d s (fun y hy => hl y (by simp [hy])) hn.2 h2 hg
    obtain ⟨g0, e0⟩ := setF_reads lim c (hl c (by simp)) x d1 s1 h1 g1
    refine ⟨g0, ?_⟩
    have e2 := takeF_other lim c (hl c (by simp)) l (d1, s1) (fun y hy => hl y (by simp [hy])) hn.1
    rw [h2] at e2
    dsimp only at e1 e2
    rw [e0, e1, List.flatMap_cons, e2, List.append_assoc]
theorem Fl_letter : ∀ k, k < 9 → ∀ c ∈ Fl k, Letter c := fun k hk => Fl_in k (by omega)
theorem Fl_nodup : ∀ k, k < 9 → (Fl k).Nodup := by decide
/-- Bytes that are taken are the message's. -/
theorem takeR_read (l : List UInt8) (d : Md) (h : takeR l = (0, d)) : l = msgB d ∧ MayM d ∧ NumD d := by
  unfold takeR at h
  by_cases h5 : l.length < 5
  · rw [if_pos h5] at h
    simp only [Prod.mk.injEq] at h
    exact absurd h.1 (by decide)
  rw [if_neg h5] at h
  by_cases hs : sum4 (l.drop 4) = l.take 4
  case neg =>
    rw [if_neg hs] at h
    simp only [Prod.mk.injEq] at h
    exact absurd h.1 (by decide)
  rw [if_pos hs] at h
  unfold insR at h
  obtain ⟨⟨kind, s1⟩, hu⟩ : ∃ p, St.uint ⟨0, l.drop 4, false⟩ = p := ⟨_, rfl⟩
  rw [hu] at h
  dsimp only at h
  by_cases hk : Known kind
  case neg =>
    rw [if_neg hk] at h
    simp only [Prod.mk.injEq] at h
    exact absurd h.1 (by decide)
  rw [if_pos hk] at h
  obtain ⟨⟨d2, s2⟩, ht⟩ : ∃ p, takeF (l.length : Int) (Fl kind) ((mz kind).d, s1) = p := ⟨_, rfl⟩
  rw [ht] at h
  dsimp only at h
  by_cases hc : s2.bad = false ∧ doneR s2.e s2.l = 0 ∧ MayM d2
  case neg =>
    rw [if_neg hc] at h
    simp only [Prod.mk.injEq] at h
    exact absurd h.1 (by decide)
  rw [if_pos hc] at h
  simp only [Prod.mk.injEq, true_and] at h
  subst h
  obtain ⟨hb, hd, hm⟩ := hc
  have hd' : s2.e = 0 ∧ s2.l = [] := by
    unfold doneR at hd
    split at hd
    · rename_i he
      split at hd
      · rename_i hl
        exact ⟨he, hl⟩
      · exact absurd hd (by decide)
    · rename_i he
      exact absurd hd he
  have hk9 : kind < 9 := by have := hk.2; omega
  obtain ⟨g1, e1⟩ := takeF_reads _ _ _ _ _ (Fl_letter kind hk9) (Fl_nodup kind hk9) ht ⟨hd'.1, hb⟩
  obtain ⟨-, e0⟩ := uint_reads _ _ _ hu g1
  dsimp only at e0 e1
  have hkd : d2.h.kind = kind := by
    have := takeF_kind (l.length : Int) (Fl kind) ((mz kind).d, s1)
    rw [ht] at this
    exact this
  have hin : l.drop 4 = insideB d2 := by
    unfold insideB
    rw [e0, e1, hd'.2, List.append_nil, hkd]
  refine ⟨?_, hm, ?_⟩
  · unfold msgB
    rw [← hin, hs, List.take_append_drop]
  · have := takeF_num (l.length : Int) (Fl kind) ((mz kind).d, s1) (by
      refine ⟨?_, by simp [mz, Mm.d, dV]⟩
      unfold WfH mz Mm.d
      dsimp only
      omega)
    rw [ht] at this
    exact this
/-- What says nothing. -/
theorem takeR_err (l : List UInt8) (h : (takeR l).1 ≠ 0) : (takeR l).2 = (mz 0).d := by
  unfold takeR at h ⊢
  by_cases h5 : l.length < 5
  · rw [if_pos h5]
  rw [if_neg h5] at h ⊢
  by_cases hs : sum4 (l.drop 4) = l.take 4
  case neg => rw [if_neg hs]
  rw [if_pos hs] at h ⊢
  unfold insR at h ⊢
  obtain ⟨⟨kind, s1⟩, hu⟩ : ∃ p, St.uint ⟨0, l.drop 4, false⟩ = p := ⟨_, rfl⟩
  rw [hu] at h ⊢
  dsimp only at h ⊢
  by_cases hk : Known kind
  case neg => rw [if_neg hk]
  rw [if_pos hk] at h ⊢
  obtain ⟨⟨d2, s2⟩, ht⟩ : ∃ p, takeF (l.length : Int) (Fl kind) ((mz kind).d, s1) = p := ⟨_, rfl⟩
  rw [ht] at h ⊢
  dsimp only at h ⊢
  by_cases hc : s2.bad = false ∧ doneR s2.e s2.l = 0 ∧ MayM d2
  case neg => rw [if_neg hc]
  rw [if_pos hc] at h
  exact absurd rfl h
end Go.Proofs.YtekdnljincbghaaDoor
/- What is put is taken; a bit that turned is told: plain laws. -/
namespace Go.Proofs.YtekdnljincbghaaDoor
open Go Go.RowKit Go.Lib

theorem uint_write (v : Nat) (rest : List UInt8) (b : Bool) (h : v < 18446744073709551616) : St.uint ⟨0, enc7 v ++ rest, b⟩ = (v, ⟨0, rest, b⟩) := by
  unfold St.uint
  dsimp only
  rw [uintE_write v rest h]
theorem ball_write (n : Nat) (r : Int) (rest : List UInt8) (h : n < 18446744073709551616) (hr : Place r) : St.ball ⟨0, ballB n r ++ rest, false⟩ = ((n, r.toNat), ⟨0, rest, false⟩) := by
  have h1 := hr.1
  have h2 := hr.2
  unfold St.ball takeB ballB
  dsimp only
  rw [List.append_assoc, uintE_write n _ h]
  dsimp only
  rw [uintE_write r.toNat rest (by omega)]
  dsimp only
  rw [if_neg (by simp), if_neg (by omega)]
  rfl
theorem text_write (lim : Int) (t rest : List UInt8) (b : Bool) (h : (t.length : Int) ≤ lim) (h2 : t.length < 18446744073709551616) : St.text lim ⟨0, txL t ++ rest, b⟩ = (t, ⟨0, rest, b⟩) := by
  unfold St.text txL
  dsimp only
  rw [textR_write lim t rest h h2]
theorem vote_write (lim : Int) (v : Vd × List UInt8) (rest : List UInt8) (hw : WfV v.1) (hp : Place v.1.r) (h : (v.2.length : Int) ≤ lim) (h2 : v.2.length < 18446744073709551616) : St.vote lim ⟨0, voteB v ++ rest, false⟩ = (v, ⟨0, rest, false⟩) := by
  obtain ⟨⟨sl, n, r⟩, t⟩ := v
  have h3 := hp.1
  unfold St.vote voteB
  dsimp only at *
  rw [List.append_assoc, List.append_assoc, uint_write sl _ _ hw.1]
  dsimp only
  rw [ball_write n r _ hw.2.1 hp]
  dsimp only
  rw [text_write lim t rest false h h2]
  have e : ((r.toNat : Nat) : Int) = r := by omega
  rw [e]
theorem rep_write {α : Type} (f : St → α × St) (enc : α → List UInt8) (l : List α) (h : ∀ x ∈ l, ∀ rest, f ⟨0, enc x ++ rest, false⟩ = (x, ⟨0, rest, false⟩)) (rest : List UInt8) :
    ∀ k, k ≤ l.length → St.rep f k ⟨0, l.flatMap enc ++ rest, false⟩ = (l.take k, ⟨0, (l.drop k).flatMap enc ++ rest, false⟩) := by
  intro k
  induction k with
  | zero => intro _; rfl
  | succ k ih =>
    intro hk
    rw [rep_succ, ih (by omega)]
    dsimp only
    have hlt : k < l.length := by omega
    rw [List.drop_eq_getElem_cons hlt, List.flatMap_cons, List.append_assoc, h _ (List.getElem_mem hlt), List.take_succ_eq_append_getElem hlt]
theorem rows_write {α : Type} (f : St → α × St) (enc : α → List UInt8) (most : Nat) (l : List α) (h : ∀ x ∈ l, ∀ rest, f ⟨0, enc x ++ rest, false⟩ = (x, ⟨0, rest, false⟩)) (rest : List UInt8) (hm : l.length ≤ most) (hs : l.length < 18446744073709551616) :
    St.rows most f ⟨0, (enc7 l.length ++ l.flatMap enc) ++ rest, false⟩ = (l, ⟨0, rest, false⟩) := by
  unfold St.rows
  rw [List.append_assoc, uint_write _ _ _ hs]
  dsimp only
  rw [if_neg (by omega), rep_write f enc l h rest l.length (Nat.le_refl _)]
  simp
/-- A field is laid over. -/
def updF (d : Md) (c : UInt8) (x : Md) : Md :=
  if c = 98 then ⟨⟨x.h.kind, d.h.bn, d.h.br, x.h.first, x.h.last, x.h.commit⟩, x.votes, x.batches, x.snap⟩
  else if c = 99 then ⟨⟨x.h.kind, x.h.bn, x.h.br, x.h.first, x.h.last, d.h.commit⟩, x.votes, x.batches, x.snap⟩
  else if c = 102 then ⟨⟨x.h.kind, x.h.bn, x.h.br, d.h.first, x.h.last, x.h.commit⟩, x.votes, x.batches, x.snap⟩
  else if c = 108 then ⟨⟨x.h.kind, x.h.bn, x.h.br, x.h.first, d.h.last, x.h.commit⟩, x.votes, x.batches, x.snap⟩
  else if c = 112 then ⟨x.h, x.votes, x.batches, d.snap⟩
  else if c = 115 then ⟨x.h, x.votes, d.batches, x.snap⟩
  else if c = 118 then ⟨x.h, d.votes, x.batches, x.snap⟩
  else x
theorem mem_flat_le {α : Type} (f : α → List UInt8) (l : List α) (x : α) (h : x ∈ l) : (f x).length ≤ (l.flatMap f).length := by
  obtain ⟨s, t, rfl⟩ := List.append_of_mem h
  rw [List.flatMap_append, List.flatMap_cons, List.length_append, List.length_append]
  omega
/-- Texts fit a reader's limit. -/
def FitD (d : Md) (lim : Int) : Prop := (d.snap.length : Int) ≤ lim ∧ (∀ b ∈ d.batches, (b.length : Int) ≤ lim) ∧ ∀ v ∈ d.votes, (v.2.length : Int) ≤ lim
theorem txL_ge (l : List UInt8) : l.length ≤ (txL l).length := by unfold txL; simp
theorem voteB_ge (v : Vd × List UInt8) : v.2.length ≤ (voteB v).length := by
  have := txL_ge v.2
  unfold voteB
  simp only [List.length_append]
  omega
theorem setF_write (lim : Int) (d : Md) (c : UInt8) (hc : Letter c) (x : Md) (rest : List UInt8) (hM : MayM d) (hn : NumD d) (hlim : lim < 18446744073709551616) (hf : FitD d lim) :
    setF lim c (x, ⟨0, fieldB d c ++ rest, false⟩) = (updF d c x, ⟨0, rest, false⟩) := by
  obtain ⟨⟨n1, n2, n3, n4, n5, n6⟩, n7⟩ := hn
  have hp := hM.2.2.1
  have hL : Lists d := hM.2.2.2.2.2.2.2.2.2.2
  rcases hc with rfl | rfl | rfl | rfl | rfl | rfl | rfl
  · unfold setF updF fieldB
    rw [if_pos rfl, if_pos rfl, if_pos rfl]
    dsimp only
    rw [ball_write _ _ _ n2 hp]
    have e : ((d.h.br.toNat : Nat) : Int) = d.h.br := by have := hp.1; omega
    dsimp only
    rw [e]
  · show (_, _) = _
    have e := uint_write d.h.commit rest false n6
    have e2 : fieldB d 99 = enc7 d.h.commit := rfl
    rw [e2, e]
    rfl
  · show (_, _) = _
    have e := uint_write d.h.first rest false n4
    have e2 : fieldB d 102 = enc7 d.h.first := rfl
    rw [e2, e]
    rfl
  · show (_, _) = _
    have e := uint_write d.h.last rest false n5
    have e2 : fieldB d 108 = enc7 d.h.last := rfl
    rw [e2, e]
    rfl
  · show (_, _) = _
    have e := text_write lim d.snap rest false hf.1 (by have := hf.1; omega)
    have e2 : fieldB d 112 = txL d.snap := rfl
    rw [e2, e]
    rfl
  · show (_, _) = _
    have e := rows_write (St.text lim) txL 16 d.batches (fun b hb rest => text_write lim b rest false (hf.2.1 b hb) (by have := hf.2.1 b hb; omega)) rest hL.1 (by have := hL.1; omega)
    have e2 : fieldB d 115 = enc7 d.batches.length ++ d.batches.flatMap txL := rfl
    rw [e2, e]
    rfl
  · show (_, _) = _
    have e := rows_write (St.vote lim) voteB 256 d.votes (fun v hv rest => vote_write lim v rest (n7 v hv) (hL.2.2.2.2.place v hv) (hf.2.2 v hv) (by have := hf.2.2 v hv; omega)) rest hL.2.1 (by have := hL.2.1; omega)
    have e2 : fieldB d 118 = enc7 d.votes.length ++ d.votes.flatMap voteB := rfl
    rw [e2, e]
    rfl
theorem takeF_write (lim : Int) (d : Md) (hM : MayM d) (hn : NumD d) (hlim : lim < 18446744073709551616) (hf : FitD d lim) (rest : List UInt8) : ∀ (l : List UInt8) (x : Md), (∀ c ∈ l, Letter c) →
    takeF lim l (x, ⟨0, l.flatMap (fieldB d) ++ rest, false⟩) = (l.foldl (fun y c => updF d c y) x, ⟨0, rest, false⟩) := by
  intro l
  induction l with
  | nil => intro x _; rfl
  | cons c l ih =>
    intro x hl
    show takeF lim l (setF lim c _) = _
    rw [List.flatMap_cons, List.append_assoc, setF_write lim d c (hl c (by simp)) x _ hM hn hlim hf, ih _ (fun y hy => hl y (by simp [hy]))]
    rfl
theorem upd_all (d : Md) (hM : MayM d) : (Fl d.h.kind).foldl (fun y c => updF d c y) (mz d.h.kind).d = d := by
  obtain ⟨hk, hb, hp, hc, hf, hl, hl2, hs, hbt, hv, hL⟩ := hM
  obtain ⟨⟨kind, bn, br, first, last, commit⟩, votes, batches, snap⟩ := d
  dsimp only at *
  have n1 : ∀ {l : List (Vd × List UInt8)}, ¬ (0 < l.length) → l = [] := fun h => List.eq_nil_of_length_eq_zero (by omega)
  have n2 : ∀ {l : List (List UInt8)}, ¬ (0 < l.length) → l = [] := fun h => List.eq_nil_of_length_eq_zero (by omega)
  have n3 : ∀ {l : List UInt8}, ¬ (0 < l.length) → l = [] := fun h => List.eq_nil_of_length_eq_zero (by omega)
  obtain ⟨k1, k2⟩ := hk
  have hcases : kind = 1 ∨ kind = 2 ∨ kind = 3 ∨ kind = 4 ∨ kind = 5 ∨ kind = 6 ∨ kind = 7 ∨ kind = 8 := by omega
  have hb' : 98 ∉ Fl kind → bn = 0 ∧ br = 0 := fun h => Classical.not_not.1 (fun h2 => hb ⟨h, h2⟩)
  have hc' : 99 ∉ Fl kind → commit = 0 := fun h => Classical.not_not.1 (fun h2 => hc ⟨h, h2⟩)
  have hl' : 108 ∉ Fl kind → last = 0 := fun h => Classical.not_not.1 (fun h2 => hl ⟨h, h2⟩)
  have hf' : 102 ∉ Fl kind → first = 0 := fun h => hf.1 h
  have hs' : 112 ∉ Fl kind → snap = [] := fun h => n3 (fun h2 => hs ⟨h, h2⟩)
  have hbt' : 115 ∉ Fl kind → batches = [] := fun h => n2 (fun h2 => hbt ⟨h, h2⟩)
  have hv' : 118 ∉ Fl kind → votes = [] := fun h => n1 (fun h2 => hv ⟨h, h2⟩)
  clear hb hc hl hf hs hbt hv n1 n2 n3
  rcases hcases with rfl | rfl | rfl | rfl | rfl | rfl | rfl | rfl
  · rw [hc' (by decide), hl' (by decide), hf' (by decide), hs' (by decide), hbt' (by decide), hv' (by decide)]; rfl
  · rw [hl' (by decide), hf' (by decide), hs' (by decide), hbt' (by decide)]; rfl
  · rw [hc' (by decide), hl' (by decide), hf' (by decide), hs' (by decide), hbt' (by decide), hv' (by decide)]; rfl
  · rw [hl' (by decide), hs' (by decide), hv' (by decide)]; rfl
  · rw [hc' (by decide), hs' (by decide), hbt' (by decide), hv' (by decide)]; rfl
  · rw [(hb' (by decide)).1, (hb' (by decide)).2, hc' (by decide), hl' (by decide), hs' (by decide), hbt' (by decide), hv' (by decide)]; rfl
  · rw [(hb' (by decide)).1, (hb' (by decide)).2, hc' (by decide), hl' (by decide), hs' (by decide), hv' (by decide)]; rfl
  · rw [(hb' (by decide)).1, (hb' (by decide)).2, hc' (by decide), hl' (by decide), hbt' (by decide), hv' (by decide)]; rfl
theorem fit_of (d : Md) (hM : MayM d) : FitD d ((msgB d).length : Int) := by
  obtain ⟨hk, hb, hp, hc, hf, hl, hl2, hs, hbt, hv, hL⟩ := hM
  have hle : ∀ c ∈ Fl d.h.kind, (fieldB d c).length ≤ (msgB d).length := fun c h => by
    have := mem_flat_le (fieldB d) (Fl d.h.kind) c h
    unfold msgB insideB
    simp only [List.length_append]
    omega
  refine ⟨?_, fun b hb => ?_, fun v hv2 => ?_⟩
  · by_cases h : 112 ∈ Fl d.h.kind
    · have h1 := hle 112 h
      have h2 := txL_ge d.snap
      have e : fieldB d 112 = txL d.snap := rfl
      rw [e] at h1
      omega
    · have : ¬ 0 < d.snap.length := fun h2 => hs ⟨h, h2⟩
      omega
  · by_cases h : 115 ∈ Fl d.h.kind
    · have h1 := hle 115 h
      have h2 := txL_ge b
      have h3 := mem_flat_le txL d.batches b hb
      have e : fieldB d 115 = enc7 d.batches.length ++ d.batches.flatMap txL := rfl
      rw [e, List.length_append] at h1
      omega
    · have : ¬ 0 < d.batches.length := fun h2 => hbt ⟨h, h2⟩
      have := List.length_pos_of_mem hb
      omega
  · by_cases h : 118 ∈ Fl d.h.kind
    · have h1 := hle 118 h
      have h2 := voteB_ge v
      have h3 := mem_flat_le voteB d.votes v hv2
      have e : fieldB d 118 = enc7 d.votes.length ++ d.votes.flatMap voteB := rfl
      rw [e, List.length_append] at h1
      omega
    · have : ¬ 0 < d.votes.length := fun h2 => hv ⟨h, h2⟩
      have := List.length_pos_of_mem hv2
      omega
theorem sum4_len (l : List UInt8) : (sum4 l).length = 4 := rfl
theorem msgB_take (d : Md) : (msgB d).take 4 = sum4 (insideB d) := by unfold msgB; exact List.take_left' rfl
theorem msgB_drop (d : Md) : (msgB d).drop 4 = insideB d := by unfold msgB; exact List.drop_left' rfl
theorem insideB_pos (d : Md) : 1 ≤ (insideB d).length := by
  unfold insideB
  have := (enc7_length d.h.kind).1
  rw [List.length_append]
  omega
theorem msgB_len (d : Md) : (msgB d).length = 4 + (insideB d).length := by unfold msgB; rw [List.length_append, sum4_len]
/-- What is put is taken. -/
theorem takeR_write (d : Md) (hM : MayM d) (hn : NumD d) (hs : (msgB d).length < 18446744073709551616) : takeR (msgB d) = (0, d) := by
  have hk := hM.1
  have hk9 : d.h.kind < 9 := by have := hk.2; omega
  unfold takeR
  rw [if_neg (by have := insideB_pos d; rw [msgB_len]; omega), msgB_take, msgB_drop, if_pos rfl]
  unfold insR
  have hu : St.uint ⟨0, (msgB d).drop 4, false⟩ = (d.h.kind, ⟨0, (Fl d.h.kind).flatMap (fieldB d), false⟩) := by
    rw [msgB_drop]
    unfold insideB
    exact uint_write _ _ _ (by omega)
  rw [hu]
  dsimp only
  have ht := takeF_write ((msgB d).length : Int) d hM hn (by omega) (fit_of d hM) [] (Fl d.h.kind) (mz d.h.kind).d (Fl_letter _ hk9)
  rw [List.append_nil, upd_all d hM] at ht
  rw [if_pos hk, ht]
  dsimp only
  rw [if_pos ⟨rfl, rfl, hM⟩]
theorem msgB_inj (d d' : Md) (hM : MayM d) (hn : NumD d) (hs : (msgB d).length < 18446744073709551616) (hM' : MayM d') (hn' : NumD d') (hs' : (msgB d').length < 18446744073709551616) : msgB d = msgB d' ↔ d = d' := by
  constructor
  · intro h
    have h1 := takeR_write d hM hn hs
    rw [h, takeR_write d' hM' hn' hs'] at h1
    simpa using h1.symm
  · intro h
    rw [h]
/-- Bytes whose sum is not theirs. -/
theorem takeR_sum (l : List UInt8) (h5 : 5 ≤ l.length) (h : sum4 (l.drop 4) ≠ l.take 4) : takeR l = (12, (mz 0).d) := by
  unfold takeR
  rw [if_neg (by omega), if_neg h]
theorem sum4_inj (a b : List UInt8) (h : sum4 a = sum4 b) : moreC T0 0 a = moreC T0 0 b := by
  have ha := moreC_lo a
  have hb := moreC_lo b
  have ha' : sumN a < 4294967296 := by unfold sumN; omega
  have hb' : sumN b < 4294967296 := by unfold sumN; omega
  unfold sum4 at h
  simp only [List.cons.injEq, and_true] at h
  have e : ∀ {x y : Nat}, UInt8.ofNat (x % 256) = UInt8.ofNat (y % 256) → x % 256 = y % 256 := fun {x y} h => by
    have := congrArg UInt8.toNat h
    rw [UInt8.toNat_ofNat', UInt8.toNat_ofNat'] at this
    omega
  obtain ⟨h1, h2, h3, h4⟩ := h
  have g1 := e h1
  have g2 := e h2
  have g3 := e h3
  have g4 := e h4
  have : sumN a = sumN b := by omega
  rw [← sumN_eq, ← sumN_eq, this]
theorem crc_flip (l : List UInt8) (r : Nat) (h : r < 8 * l.length) : moreC T0 0 (flip l r) ≠ moreC T0 0 l := by
  have hT : ∀ i, i < 16 → T0 i = T0 i := fun _ _ => rfl
  rw [sum_B T0 hT, sum_B T0 hT]
  intro hc
  have h1 := congrArg toB hc
  rw [toB_ofB, toB_ofB] at h1
  unfold crcB at h1
  rw [foldB_flip l _ r h] at h1
  have h2 : stn (8 * l.length - r) 1#32 = 0#32 := by
    have h3 : ∀ (a s m : B32), (a ^^^ s) ^^^ m = a ^^^ m → s = 0#32 := fun a s m h => by
      have h4 : (a ^^^ m) ^^^ ((a ^^^ s) ^^^ m) = 0#32 := by rw [h]; exact BitVec.xor_self
      have h5 : (a ^^^ m) ^^^ ((a ^^^ s) ^^^ m) = s := by
        ext i hi
        simp only [BitVec.getElem_xor]
        cases a[i] <;> cases s[i] <;> cases m[i] <;> rfl
      rw [h5] at h4
      exact h4
    exact h3 _ _ _ h1
  have h3 := stn_inj0 _ _ h2
  exact absurd h3 (by decide)
/-- A bit that turned is told. -/
theorem takeR_flip (l : List UInt8) (r : Nat) (h5 : 5 ≤ l.length) (hs : sum4 (l.drop 4) = l.take 4) (hr : r < 8 * l.length) : takeR (flip l r) = (12, (mz 0).d) := by
  refine takeR_sum _ (by rw [flip_length]; exact h5) ?_
  by_cases h4 : r / 8 < 4
  · have e1 : (flip l r).drop 4 = l.drop 4 := by
      rw [flip_set l r (by omega), List.drop_set_of_lt h4]
    have e2 : (flip l r).take 4 ≠ l.take 4 := by
      rw [flip_set l r (by omega)]
      intro hc
      have h6 := congrArg (fun x => x[r / 8]?) hc
      simp only [List.getElem?_take, if_pos h4] at h6
      rw [List.getElem?_set_self (by omega), List.getElem?_eq_getElem (by omega)] at h6
      simp only [Option.some.injEq] at h6
      have h7 := congrArg UInt8.toNat h6
      rw [turnU_toNat _ _ (by omega)] at h7
      have h8 : l[r / 8].toNat ^^^ (l[r / 8].toNat ^^^ 2 ^ (r % 8)) = 2 ^ (r % 8) := by rw [← Nat.xor_assoc, Nat.xor_self, Nat.zero_xor]
      rw [h7, Nat.xor_self] at h8
      have := Nat.two_pow_pos (r % 8)
      omega
    rw [e1, hs]
    exact fun h => e2 h.symm
  · have e1 : (flip l r).take 4 = l.take 4 := by
      rw [flip_set l r (by omega), List.take_set_of_le (by omega)]
    have e2 : (flip l r).drop 4 = flip (l.drop 4) (r - 32) := by
      have hd : (r - 32) / 8 = r / 8 - 4 := by omega
      have hm : (r - 32) % 8 = r % 8 := by omega
      rw [flip_set l r (by omega), flip_set (l.drop 4) (r - 32) (by rw [List.length_drop]; omega)]
      rw [List.drop_set, if_neg h4]
      have hg : 4 + (r / 8 - 4) = r / 8 := by omega
      simp only [hd, hm, List.getElem_drop, hg]
    rw [e1, ← hs, e2]
    intro hc
    exact crc_flip (l.drop 4) (r - 32) (by rw [List.length_drop]; omega) (sum4_inj _ _ hc)
end Go.Proofs.YtekdnljincbghaaDoor
/- The walk of msg.Same. -/
namespace Go.Proofs.YtekdnljincbghaaDoor
open Go Go.RowKit Go.Lib

theorem md_eq (a b : Md) : a = b ↔ (a.votes = b.votes ∧ a.h.kind = b.h.kind ∧ a.h.bn = b.h.bn ∧ a.h.br = b.h.br ∧ a.h.first = b.h.first ∧ a.h.last = b.h.last ∧ a.h.commit = b.h.commit ∧ a.batches = b.batches ∧ a.snap = b.snap) := by
  obtain ⟨⟨x1, x2, x3, x4, x5, x6⟩, x7, x8, x9⟩ := a
  obtain ⟨⟨y1, y2, y3, y4, y5, y6⟩, y7, y8, y9⟩ := b
  simp only [Md.mk.injEq, Hd.mk.injEq]
  constructor
  · rintro ⟨⟨a1, a2, a3, a4, a5, a6⟩, a7, a8, a9⟩; exact ⟨a7, a1, a2, a3, a4, a5, a6, a8, a9⟩
  · rintro ⟨a7, a1, a2, a3, a4, a5, a6, a8, a9⟩; exact ⟨⟨a1, a2, a3, a4, a5, a6⟩, a7, a8, a9⟩
theorem no_of {q : Bool} {p : Prop} (h : q = true ↔ p) (hn : ¬ p) : q = false := by
  cases q
  · rfl
  · exact absurd (h.1 rfl) hn
set_option maxRecDepth 100000 in
set_option maxHeartbeats 8000000 in
theorem msame_any (a b : Mm) (w : World) (ha : SeesM w a) (hb : SeesM w b) (wa : WfM a) (wb : WfM b) : Calls Tryd.prog 22 #[msgV a, msgV b] w fun e w' => e = .returned (.bool (decide (a.d = b.d))) ∧ Mod [] w w' := by
  have HSA := Lib.hid ha
  have HSB := Lib.hid hb
  have l1 := wa.vlen
  have l2 := wa.blen
  have l3 := wb.vlen
  have l4 := wb.blen
  have hiff := md_eq a.d b.d
  obtain ⟨q, hq⟩ : ∃ q, decide (a.d = b.d) = q := ⟨_, rfl⟩
  rw [hq]
  rw [← decide_eq_true_iff (p := a.d = b.d), hq] at hiff
  obtain ⟨⟨kind, bn, br, first, last, commit⟩, vo, vc, votes, so, sc, batches, pl, po, pc⟩ := a
  obtain ⟨⟨kind', bn', br', first', last', commit'⟩, vo', vc', votes', so', sc', batches', pl', po', pc'⟩ := b
  unfold Mm.d at hiff
  dsimp only at hiff l1 l2 l3 l4
  have HQ := Lib.hid hiff
  clear ha hb wa wb hq hiff
  unfold msgV mC
  dsimp only
  have ma := Mod.alloc [] w (.cells #[.int .u8 (kind : Int), .int .u64 (bn : Int), .int .i64 br, .int .u64 (first : Int), .int .u64 (last : Int), .int .u64 (commit : Int), .slice vo votes.length vc, .slice so batches.length sc, .slice po pl.length pc] 29)
  have hba := heap_alloc_new w (.cells #[.int .u8 (kind : Int), .int .u64 (bn : Int), .int .i64 br, .int .u64 (first : Int), .int .u64 (last : Int), .int .u64 (commit : Int), .slice vo votes.length vc, .slice so batches.length sc, .slice po pl.length pc] 29)
  obtain ⟨w1, hw1⟩ : ∃ x, w.alloc (.cells #[.int .u8 (kind : Int), .int .u64 (bn : Int), .int .i64 br, .int .u64 (first : Int), .int .u64 (last : Int), .int .u64 (commit : Int), .slice vo votes.length vc, .slice so batches.length sc, .slice po pl.length pc] 29) = x := ⟨_, rfl⟩
  rw [hw1] at ma hba
  have mb := Mod.alloc [] w1 (.cells #[.int .u8 (kind' : Int), .int .u64 (bn' : Int), .int .i64 br', .int .u64 (first' : Int), .int .u64 (last' : Int), .int .u64 (commit' : Int), .slice vo' votes'.length vc', .slice so' batches'.length sc', .slice po' pl'.length pc'] 29)
  have hbb := heap_alloc_new w1 (.cells #[.int .u8 (kind' : Int), .int .u64 (bn' : Int), .int .i64 br', .int .u64 (first' : Int), .int .u64 (last' : Int), .int .u64 (commit' : Int), .slice vo' votes'.length vc', .slice so' batches'.length sc', .slice po' pl'.length pc'] 29)
  obtain ⟨w2, hw2⟩ : ∃ x, w1.alloc (.cells #[.int .u8 (kind' : Int), .int .u64 (bn' : Int), .int .i64 br', .int .u64 (first' : Int), .int .u64 (last' : Int), .int .u64 (commit' : Int), .slice vo' votes'.length vc', .slice so' batches'.length sc', .slice po' pl'.length pc'] 29) = x := ⟨_, rfl⟩
  rw [hw2] at mb hbb
  have M2 := Lib.hid (ma.trans' mb)
  have HBA := Lib.hid (mb.get hba List.not_mem_nil)
  have HBB := Lib.hid hbb
  have a6 := cell_of_block (i := 6) HBA.out
  have b6 := cell_of_block (i := 6) HBB.out
  simp only [List.getElem?_toArray, List.getElem?_cons_succ, List.getElem?_cons_zero] at a6 b6
  have HC := Lib.hid (eqVs_any vo vo' votes.length votes'.length vc vc' votes votes' w2 rfl rfl l1 l3 (HSA.out.votes.mod0 M2.out) (HSB.out.votes.mod0 M2.out))
  obtain ⟨p, hp⟩ : ∃ p, decide (dV votes = dV votes') = p := ⟨_, rfl⟩
  rw [hp] at HC
  have HP := Lib.hid hp
  clear ma mb hba hbb hp
  go_enter Tryd.func22, Tryd.ntmps22
  go_wp2_with fail
  refine HC.out.mono ?_
  rintro e w3 ⟨rfl, m3⟩
  have M3 := Lib.hid (M2.out.trans' m3)
  have HBA3 := Lib.hid (m3.get HBA.out List.not_mem_nil)
  have HBB3 := Lib.hid (m3.get HBB.out List.not_mem_nil)
  clear m3 HC M2 HBA HBB a6 b6 hw1 hw2
  have a0 := cell_of_block (i := 0) HBA3.out
  have a1 := cell_of_block (i := 1) HBA3.out
  have a2 := cell_of_block (i := 2) HBA3.out
  have a3 := cell_of_block (i := 3) HBA3.out
  have a4 := cell_of_block (i := 4) HBA3.out
  have a5 := cell_of_block (i := 5) HBA3.out
  have a6 := cell_of_block (i := 6) HBA3.out
  have a7 := cell_of_block (i := 7) HBA3.out
  have a8 := cell_of_block (i := 8) HBA3.out
  simp only [List.getElem?_toArray, List.getElem?_cons_succ, List.getElem?_cons_zero] at a0 a1 a2 a3 a4 a5 a6 a7 a8
  have b0 := cell_of_block (i := 0) HBB3.out
  have b1 := cell_of_block (i := 1) HBB3.out
  have b2 := cell_of_block (i := 2) HBB3.out
  have b3 := cell_of_block (i := 3) HBB3.out
  have b4 := cell_of_block (i := 4) HBB3.out
  have b5 := cell_of_block (i := 5) HBB3.out
  have b6 := cell_of_block (i := 6) HBB3.out
  have b7 := cell_of_block (i := 7) HBB3.out
  have b8 := cell_of_block (i := 8) HBB3.out
  simp only [List.getElem?_toArray, List.getElem?_cons_succ, List.getElem?_cons_zero] at b0 b1 b2 b3 b4 b5 b6 b7 b8
  cases p
  case false =>
    have HH : Hid (q = false) := Lib.hid (no_of HQ.out (fun h => of_decide_eq_false HP.out h.1))
    clear HQ
    go_wp2_with fail
    go_ret
    exact ⟨by rw [HH.out]; rfl, M3.out⟩
  by_cases e1 : kind = kind'
  case neg =>
    have D : ((kind : Int) == (kind' : Int)) = false := by simp; omega
    have HH : Hid (q = false) := Lib.hid (no_of HQ.out (fun h => e1 h.2.1))
    clear e1 HQ
    go_wp2_with fail
    go_ret
    exact ⟨by rw [HH.out]; rfl, M3.out⟩
  subst e1
  by_cases e1 : bn = bn'
  case neg =>
    have D : ((bn : Int) == (bn' : Int)) = false := by simp; omega
    have D2 : ((bn : Int) = (bn' : Int)) = False := by simp; omega
    have D3 : (bn = bn') = False := by simp; omega
    have HH : Hid (q = false) := Lib.hid (no_of HQ.out (fun h => e1 h.2.2.1))
    clear e1 HQ
    go_wp2_with fail
    go_ret
    exact ⟨by rw [HH.out]; rfl, M3.out⟩
  subst e1
  by_cases e1 : br = br'
  case neg =>
    have D : (br == br') = false := by simp; omega
    have D3 : (br = br') = False := by simp; omega
    have HH : Hid (q = false) := Lib.hid (no_of HQ.out (fun h => e1 h.2.2.2.1))
    clear e1 HQ
    go_wp2_with fail
    go_ret
    exact ⟨by rw [HH.out]; rfl, M3.out⟩
  subst e1
  by_cases e1 : first = first'
  case neg =>
    have D : ((first : Int) == (first' : Int)) = false := by simp; omega
    have HH : Hid (q = false) := Lib.hid (no_of HQ.out (fun h => e1 h.2.2.2.2.1))
    clear e1 HQ
    go_wp2_with fail
    go_ret
    exact ⟨by rw [HH.out]; rfl, M3.out⟩
  subst e1
  by_cases e1 : last = last'
  case neg =>
    have D : ((last : Int) == (last' : Int)) = false := by simp; omega
    have HH : Hid (q = false) := Lib.hid (no_of HQ.out (fun h => e1 h.2.2.2.2.2.1))
    clear e1 HQ
    go_wp2_with fail
    go_ret
    exact ⟨by rw [HH.out]; rfl, M3.out⟩
  subst e1
  by_cases e1 : commit = commit'
  case neg =>
    have D : ((commit : Int) == (commit' : Int)) = false := by simp; omega
    have HH : Hid (q = false) := Lib.hid (no_of HQ.out (fun h => e1 h.2.2.2.2.2.2.1))
    clear e1 HQ
    go_wp2_with fail
    go_ret
    exact ⟨by rw [HH.out]; rfl, M3.out⟩
  subst e1
  have HC := Lib.hid (eqBs_any so so' batches.length batches'.length sc sc' batches batches' w3 rfl rfl l2 l4 (HSA.out.batches.mod0 M3.out) (HSB.out.batches.mod0 M3.out))
  obtain ⟨p2, hp2⟩ : ∃ p, decide (dB batches = dB batches') = p := ⟨_, rfl⟩
  rw [hp2] at HC
  have HP2 := Lib.hid hp2
  clear hp2
  go_wp2_with fail
  refine HC.out.mono ?_
  rintro e w4 ⟨rfl, m4⟩
  have M4 := Lib.hid (M3.out.trans' m4)
  have HBA4 := Lib.hid (m4.get HBA3.out List.not_mem_nil)
  have HBB4 := Lib.hid (m4.get HBB3.out List.not_mem_nil)
  clear m4 HC M3 HBA3 HBB3 a0 b0 a1 b1 a2 b2 a3 b3 a4 b4 a5 b5 a6 b6 a7 b7 a8 b8
  have a8 := cell_of_block (i := 8) HBA4.out
  simp only [List.getElem?_toArray, List.getElem?_cons_succ, List.getElem?_cons_zero] at a8
  have b8 := cell_of_block (i := 8) HBB4.out
  simp only [List.getElem?_toArray, List.getElem?_cons_succ, List.getElem?_cons_zero] at b8
  cases p2
  case false =>
    have HH : Hid (q = false) := Lib.hid (no_of HQ.out (fun h => of_decide_eq_false HP2.out h.2.2.2.2.2.2.2.1))
    clear HQ
    go_wp2_with fail
    go_ret
    exact ⟨by rw [HH.out]; rfl, M4.out⟩
  have HC := Lib.hid (bequal_any po po' pl.length pl'.length pc pc' pl pl' w4 rfl rfl (HSA.out.snap.mod0 M4.out) (HSB.out.snap.mod0 M4.out))
  obtain ⟨p3, hp3⟩ : ∃ p, decide (pl = pl') = p := ⟨_, rfl⟩
  rw [hp3] at HC
  have HH : Hid (q = p3) := Lib.hid (by
    cases p3
    · exact no_of HQ.out (fun h => of_decide_eq_false hp3 h.2.2.2.2.2.2.2.2)
    · exact HQ.out.2 (by simp [of_decide_eq_true HP.out, of_decide_eq_true HP2.out, of_decide_eq_true hp3]))
  clear hp3 HQ
  go_wp2_with fail
  refine HC.out.mono ?_
  rintro e w5 ⟨rfl, rfl⟩
  go_wp2_with fail
  go_ret
  exact ⟨by rw [HH.out]; rfl, M4.out⟩
end Go.Proofs.YtekdnljincbghaaDoor
