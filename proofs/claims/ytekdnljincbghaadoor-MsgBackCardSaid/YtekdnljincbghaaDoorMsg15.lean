/- The walk of quoratelaw17.own. -/
import Derived.Test.YtekdnljincbghaaDoorMsg14
import Derived.Test.YtekdnljincbghaaDoorMsg11
import Derived.Test.YtekdnljincbghaaDoorRegionU
namespace Go.Proofs.YtekdnljincbghaaDoor
open Go Go.RowKit Go.Lib

/-- A copy while it is made: of what message, what is made so far. -/
structure OW (w : World) (m n : Mm) (wr : World) : Prop where
  b1 : wr.heap[w.heap.size]? = some (.cells (mC (.int .u8 (m.h.kind : Int)) m) 29 (0, 0))
  b2 : wr.heap[w.heap.size + 1]? = some (.cells #[.int .u8 0, .int .u64 0, .int .i64 0, .int .u64 0, .int .u64 0, .int .u64 0, .slice none 0 0, .slice none 0 0, .slice none 0 0] 29 (0, 0))
  b3 : wr.heap[w.heap.size + 2]? = some (.cells (mC (.int .u8 (m.h.kind : Int)) n) 29 (0, 0))
  nm : NewM (w.heap.size + 3) wr n
  mod : Mod [] w wr
section
variable {w wr w' : World} {m n n' : Mm}
theorem OW.lt (h : OW w m n wr) : w.heap.size + 3 ≤ wr.heap.size := by have := lt_of_block h.b3; omega
theorem OW.still (h : OW w m n wr) (k : Mod [] wr w') : OW w m n w' := ⟨k.get h.b1 List.not_mem_nil, k.get h.b2 List.not_mem_nil, k.get h.b3 List.not_mem_nil, h.nm.mod0 k, h.mod.trans' k⟩
theorem OW.app (h : OW w m n wr) {S : List Nat} (k : Mod S wr w') (hS : ∀ i, i ∈ S → w.heap.size + 3 ≤ i) (hn : NewM (w.heap.size + 3) w' n) : OW w m n w' :=
  ⟨k.get h.b1 (fun hi => by have := hS _ hi; omega), k.get h.b2 (fun hi => by have := hS _ hi; omega), k.get h.b3 (fun hi => by have := hS _ hi; omega), hn, h.mod.trans k (fun i hi hl => by have := hS i hi; omega)⟩
theorem OW.set (h : OW w m n wr) (i : Nat) (v : Value) (he : (mC (.int .u8 (m.h.kind : Int)) n).setIfInBounds i v = mC (.int .u8 (m.h.kind : Int)) n') (hn : NewM (w.heap.size + 3) wr n') : OW w m n' (wr.setCell ⟨w.heap.size + 2, i, none⟩ v) := by
  have k : Mod [w.heap.size + 2] wr (wr.setCell ⟨w.heap.size + 2, i, none⟩ v) := Mod.setCell wr _ _ (by simp)
  have h1 := heap_setCell_same (i := i) h.b3 v
  rw [he] at h1
  exact ⟨k.get h.b1 (by simp), k.get h.b2 (by simp), h1, hn.off k (by simp), h.mod.trans k (by simp)⟩
end
theorem ob_empty (w : World) : OwnB (w.alloc (.cells #[] 5)) (some ⟨w.heap.size, 0, none⟩) 0 [] := Own.new (n := 0) (heap_alloc_new w (.cells #[] 5)) (.inl rfl) rfl (by unfold maxLen; omega)

set_option maxRecDepth 100000 in
set_option maxHeartbeats 16000000 in
theorem own17_any (m : Mm) (w : World) (hs : SeesM w m) (hw : WfM m) (hf : SmallM m) : Calls Tryd.prog 12 #[msgV m] w fun e w' => ∃ n, e = .returned (msgV n) ∧ n.d = m.d ∧ NewM w.heap.size w' n ∧ Mod [] w w' := by
  have HSV := Lib.hid hs.votes
  have HSB := Lib.hid hs.batches
  have HSP := Lib.hid hs.snap
  have HFV := Lib.hid hf.vote
  have HFB := Lib.hid hf.batch
  have hf1 := hf.votes
  have hf2 := hf.batches
  have hf3 := hf.snap
  have hD : m.d = ⟨m.h, dV m.votes, dB m.batches, m.p.1⟩ := rfl
  obtain ⟨mm, hmm⟩ : ∃ x, m = x := ⟨_, rfl⟩
  have HMM := Lib.hid hmm
  rw [hmm] at hD
  obtain ⟨⟨kind, bn, br, first, last, commit⟩, vo, vc, votes, so, sc, batches, pl, po, pc⟩ := m
  rw [← hmm] at hD
  dsimp only at hD HSV HSB HSP HFV HFB hf1 hf2 hf3
  rw [hmm] at hD
  have HD := Lib.hid hD
  have hk1 : mm.h.kind = kind := by rw [← hmm]
  have HK1 := Lib.hid hk1
  have HV1 : Hid (msgV mm = .agg #[.int .u8 (kind : Int), .int .u64 (bn : Int), .int .i64 br, .int .u64 (first : Int), .int .u64 (last : Int), .int .u64 (commit : Int), .slice vo votes.length vc, .slice so batches.length sc, .slice po pl.length pc]) := Lib.hid (by rw [← hmm]; rfl)
  have HCM : Hid (mC (.int .u8 (mm.h.kind : Int)) mm = #[.int .u8 (kind : Int), .int .u64 (bn : Int), .int .i64 br, .int .u64 (first : Int), .int .u64 (last : Int), .int .u64 (commit : Int), .slice vo votes.length vc, .slice so batches.length sc, .slice po pl.length pc]) := Lib.hid (by rw [← hmm]; rfl)
  rw [hmm, HV1.out]
  clear hs hw hf hD hmm hk1
  have m1 := Mod.alloc [] w (.cells #[.int .u8 (kind : Int), .int .u64 (bn : Int), .int .i64 br, .int .u64 (first : Int), .int .u64 (last : Int), .int .u64 (commit : Int), .slice vo votes.length vc, .slice so batches.length sc, .slice po pl.length pc] 29)
  have hb1 := heap_alloc_new w (.cells #[.int .u8 (kind : Int), .int .u64 (bn : Int), .int .i64 br, .int .u64 (first : Int), .int .u64 (last : Int), .int .u64 (commit : Int), .slice vo votes.length vc, .slice so batches.length sc, .slice po pl.length pc] 29)
  obtain ⟨w1, hw1⟩ : ∃ x, w.alloc (.cells #[.int .u8 (kind : Int), .int .u64 (bn : Int), .int .i64 br, .int .u64 (first : Int), .int .u64 (last : Int), .int .u64 (commit : Int), .slice vo votes.length vc, .slice so batches.length sc, .slice po pl.length pc] 29) = x := ⟨_, rfl⟩
  have hz1 : w1.heap.size = w.heap.size + 1 := by rw [← hw1]; simp
  rw [hw1] at m1 hb1
  have m2 := Mod.alloc [] w1 (.cells #[.int .u8 0, .int .u64 0, .int .i64 0, .int .u64 0, .int .u64 0, .int .u64 0, .slice none 0 0, .slice none 0 0, .slice none 0 0] 29)
  have hb2 := heap_alloc_new w1 (.cells #[.int .u8 0, .int .u64 0, .int .i64 0, .int .u64 0, .int .u64 0, .int .u64 0, .slice none 0 0, .slice none 0 0, .slice none 0 0] 29)
  obtain ⟨w2, hw2⟩ : ∃ x, w1.alloc (.cells #[.int .u8 0, .int .u64 0, .int .i64 0, .int .u64 0, .int .u64 0, .int .u64 0, .slice none 0 0, .slice none 0 0, .slice none 0 0] 29) = x := ⟨_, rfl⟩
  have hz2 : w2.heap.size = w.heap.size + 2 := by rw [← hw2]; simp; omega
  rw [hw2] at m2 hb2
  have m3 := Mod.alloc [] w2 (.cells #[.int .u8 0, .int .u64 0, .int .i64 0, .int .u64 0, .int .u64 0, .int .u64 0, .slice none 0 0, .slice none 0 0, .slice none 0 0] 29)
  have hb3 := heap_alloc_new w2 (.cells #[.int .u8 0, .int .u64 0, .int .i64 0, .int .u64 0, .int .u64 0, .int .u64 0, .slice none 0 0, .slice none 0 0, .slice none 0 0] 29)
  obtain ⟨w3, hw3⟩ : ∃ x, w2.alloc (.cells #[.int .u8 0, .int .u64 0, .int .i64 0, .int .u64 0, .int .u64 0, .int .u64 0, .slice none 0 0, .slice none 0 0, .slice none 0 0] 29) = x := ⟨_, rfl⟩
  rw [hw3] at m3 hb3
  rw [hz1] at hb2
  rw [hz2] at hb3
  have hc2 := m2.get hb1 List.not_mem_nil
  have c0 := cell_of_block (i := 0) hc2
  have c1 := cell_of_block (i := 1) hc2
  have c2 := cell_of_block (i := 2) hc2
  have c3 := cell_of_block (i := 3) hc2
  have c4 := cell_of_block (i := 4) hc2
  have c5 := cell_of_block (i := 5) hc2
  have c6 := cell_of_block (i := 6) hc2
  have c7 := cell_of_block (i := 7) hc2
  have c8 := cell_of_block (i := 8) hc2
  simp only [List.getElem?_toArray, List.getElem?_cons_succ, List.getElem?_cons_zero] at c0 c1 c2 c3 c4 c5 c6 c7 c8
  have z0 := cell_of_block (i := 0) hb3
  have y0 := free_of_block (i := 0) hb3
  have z1 := cell_of_block (i := 1) hb3
  have y1 := free_of_block (i := 1) hb3
  have z2 := cell_of_block (i := 2) hb3
  have y2 := free_of_block (i := 2) hb3
  have z3 := cell_of_block (i := 3) hb3
  have y3 := free_of_block (i := 3) hb3
  have z4 := cell_of_block (i := 4) hb3
  have y4 := free_of_block (i := 4) hb3
  have z5 := cell_of_block (i := 5) hb3
  have y5 := free_of_block (i := 5) hb3
  have z6 := cell_of_block (i := 6) hb3
  have y6 := free_of_block (i := 6) hb3
  have z7 := cell_of_block (i := 7) hb3
  have y7 := free_of_block (i := 7) hb3
  have z8 := cell_of_block (i := 8) hb3
  have y8 := free_of_block (i := 8) hb3
  simp only [List.getElem?_toArray, List.getElem?_cons_succ, List.getElem?_cons_zero] at z0 z1 z2 z3 z4 z5 z6 z7 z8
  go_enter Tryd.func12, Tryd.ntmps12
  go_upto_region 4 with (fail)
  obtain ⟨wa, hwa⟩ : ∃ x, (((((((((((w3.setCell ⟨w.heap.size + 2, 0, none⟩ (.int .u8 (kind : Int))).setCell ⟨w.heap.size + 2, 1, none⟩ (.int .u64 (bn : Int))).setCell ⟨w.heap.size + 2, 2, none⟩ (.int .i64 br)).setCell ⟨w.heap.size + 2, 3, none⟩ (.int .u64 (first : Int))).setCell ⟨w.heap.size + 2, 4, none⟩ (.int .u64 (last : Int))).setCell ⟨w.heap.size + 2, 5, none⟩ (.int .u64 (commit : Int))).setCell ⟨w.heap.size + 2, 6, none⟩ (.slice vo votes.length vc)).setCell ⟨w.heap.size + 2, 7, none⟩ (.slice so batches.length sc)).setCell ⟨w.heap.size + 2, 8, none⟩ (.slice po pl.length pc)).setCell ⟨w.heap.size + 2, 6, none⟩ (.slice none 0 0)).setCell ⟨w.heap.size + 2, 7, none⟩ (.slice none 0 0)) = x := ⟨_, rfl⟩
  rw [hwa]
  have hba : wa.heap[w.heap.size + 2]? = some (.cells #[.int .u8 (kind : Int), .int .u64 (bn : Int), .int .i64 br, .int .u64 (first : Int), .int .u64 (last : Int), .int .u64 (commit : Int), .slice none 0 0, .slice none 0 0, .slice po pl.length pc] 29 (0, 0)) := by
    rw [← hwa]
    have h := (heap_setCell_same (i := 7) (heap_setCell_same (i := 6) (heap_setCell_same (i := 8) (heap_setCell_same (i := 7) (heap_setCell_same (i := 6) (heap_setCell_same (i := 5) (heap_setCell_same (i := 4) (heap_setCell_same (i := 3) (heap_setCell_same (i := 2) (heap_setCell_same (i := 1) (heap_setCell_same (i := 0) hb3 (.int .u8 (kind : Int))) (.int .u64 (bn : Int))) (.int .i64 br)) (.int .u64 (first : Int))) (.int .u64 (last : Int))) (.int .u64 (commit : Int))) (.slice vo votes.length vc)) (.slice so batches.length sc)) (.slice po pl.length pc)) (.slice none 0 0)) (.slice none 0 0))
    simp only [List.setIfInBounds_toArray, List.set_cons_zero, List.set_cons_succ] at h
    exact h
  have ma : Mod [] w2 wa := by
    rw [← hwa]
    exact m3.trans (T := [w.heap.size + 2]) (((((((((((Mod.setCell _ _ _ (by simp)).trans' (Mod.setCell _ _ _ (by simp))).trans' (Mod.setCell _ _ _ (by simp))).trans' (Mod.setCell _ _ _ (by simp))).trans' (Mod.setCell _ _ _ (by simp))).trans' (Mod.setCell _ _ _ (by simp))).trans' (Mod.setCell _ _ _ (by simp))).trans' (Mod.setCell _ _ _ (by simp))).trans' (Mod.setCell _ _ _ (by simp))).trans' (Mod.setCell _ _ _ (by simp))).trans' (Mod.setCell _ _ _ (by simp))) (by simp; omega)
  have MA := Lib.hid ((m1.trans' m2).trans' ma)
  have HB1 := Lib.hid (ma.get hc2 List.not_mem_nil)
  have HB2 := Lib.hid (ma.get hb2 List.not_mem_nil)
  have HB3 := Lib.hid hba
  clear c0 c1 c2 c3 c4 c5 c6 c7 c8 z0 z1 z2 z3 z4 z5 z6 z7 z8 y0 y1 y2 y3 y4 y5 y6 y7 y8 hwa hba ma m1 m2 m3 hb1 hb2 hb3 hc2 hw1 hw2 hw3 hz1 hz2
  have me := Mod.alloc [] wa (.cells #[] 5)
  have he := ob_empty wa
  obtain ⟨we, hwe⟩ : ∃ x, wa.alloc (.cells #[] 5) = x := ⟨_, rfl⟩
  have hze : we.heap.size = wa.heap.size + 1 := by rw [← hwe]; simp
  rw [hwe] at me he
  have hla := lt_of_block HB3.out
  have HE := Lib.hid he
  have HB1e := Lib.hid (me.get HB1.out List.not_mem_nil)
  have HB2e := Lib.hid (me.get HB2.out List.not_mem_nil)
  have HB3e := Lib.hid (me.get HB3.out List.not_mem_nil)
  have MAe := Lib.hid (MA.out.trans' me)
  have PL := Lib.hid (HSP.out.mod0 MAe.out)
  clear me he HB1 HB2 HB3 MA
  have c8 := cell_of_block (i := 8) HB1e.out
  simp only [List.getElem?_toArray, List.getElem?_cons_succ, List.getElem?_cons_zero] at c8
  go_wp2_with (first | (at_builtin; refine wpl_app8 (dst := some 13) _ _ (some ⟨wa.heap.size, 0, none⟩) 0 0 [] rfl rfl HE.out po pl.length pc pl rfl rfl PL.out (by omega) ?_) | fail)
  intro a5 c5 w5 o5 m5 s5
  rw [List.nil_append] at o5
  have HB1f := Lib.hid (m5.get HB1e.out (by simp [blk]; omega))
  have HB2f := Lib.hid (m5.get HB2e.out (by simp [blk]; omega))
  have HB3f := Lib.hid (m5.get HB3e.out (by simp [blk]; omega))
  have MF := Lib.hid (MAe.out.trans m5 (fun i hi hl => by simp [blk] at hi; omega))
  have NB5 : Hid (NewB (w.heap.size + 3) w5 (pl, a5, c5)) := Lib.hid ⟨o5, fun k hk => by
    rcases s5.blk k hk with h | h
    · simp [blk] at h; omega
    · omega⟩
  clear o5 m5 s5 HB1e HB2e HB3e MAe HE PL c8 hwe
  have f8 := free_of_block (i := 8) HB3f.out
  have z8 := cell_of_block (i := 8) HB3f.out
  simp only [List.getElem?_toArray, List.getElem?_cons_succ, List.getElem?_cons_zero] at z8
  have HO1 : Hid (OW w mm ⟨⟨kind, bn, br, first, last, commit⟩, none, 0, [], none, 0, [], pl, a5, c5⟩ (w5.setCell ⟨w.heap.size + 2, 8, none⟩ (.slice a5 pl.length c5))) := Lib.hid (by
    have k : Mod [w.heap.size + 2] w5 (w5.setCell ⟨w.heap.size + 2, 8, none⟩ (.slice a5 pl.length c5)) := Mod.setCell _ _ _ (by simp)
    refine ⟨?_, k.get HB2f.out (by simp), ?_, ⟨NewVs.nil _ _, NewBs.nil _ _, NB5.out.off k (by simp)⟩, MF.out.trans k (by simp)⟩
    · rw [HCM.out]
      exact k.get HB1f.out (by simp)
    · rw [HK1.out]
      exact heap_setCell_same HB3f.out _)
  clear HB1f HB2f HB3f MF NB5 HCM
  go_wp2_with fail
  clear f8 z8
  go_loopw [4] (fun s4 wr => ∃ (k : Nat) (ao : Option Addr) (ac : Nat) (l : List Vm), k ≤ votes.length ∧ s4 = .int .i64 (k : Int) ∧ l.length = k ∧ dV l = (dV votes).take k ∧ OW w mm ⟨⟨kind, bn, br, first, last, commit⟩, ao, ac, l, none, 0, [], pl, a5, c5⟩ wr) (fun s4 _ => votes.length - (intOf s4).toNat)
  case atStart => exact ⟨0, none, 0, [], Nat.zero_le _, rfl, rfl, rfl, HO1.out⟩
  case round =>
    obtain ⟨k, ao, ac, l, hk, rfl, hlk, hdl, how⟩ := hrel
    rename World => wr
    have O := Lib.hid how
    have HLK := Lib.hid hlk
    have HDL := Lib.hid hdl
    have HR1 := Lib.hid (how.b1)
    have HR3 := Lib.hid (how.b3)
    unfold mC at HR1 HR3
    rw [HK1.out] at HR3
    dsimp only at HR3
    rw [hlk] at HR3
    have e6 : mm.votes = votes ∧ mm.vo = vo ∧ mm.vc = vc ∧ mm.batches = batches ∧ mm.so = so ∧ mm.sc = sc := by rw [← HMM.out]; exact ⟨rfl, rfl, rfl, rfl, rfl, rfl⟩
    rw [e6.1, e6.2.1, e6.2.2.1, e6.2.2.2.1, e6.2.2.2.2.1, e6.2.2.2.2.2] at HR1
    have hzr := how.lt
    clear how hlk hdl HO1 e6
    have c6 := cell_of_block (i := 6) HR1.out
    simp only [List.getElem?_toArray, List.getElem?_cons_succ, List.getElem?_cons_zero] at c6
    by_cases hlt : k < votes.length
    case neg =>
      have hke : k = votes.length := by omega
      clear c6
      subst hke
      have HDV : Hid (dV l = dV votes) := Lib.hid (by rw [HDL.out, List.take_of_length_le (by rw [dV_length]; exact Nat.le_refl _)])
      have c6 := cell_of_block (i := 6) HR1.out
      simp only [List.getElem?_toArray, List.getElem?_cons_succ, List.getElem?_cons_zero] at c6
      clear HDL
      go_wp2_with fail
      clear c6
      go_loopw [6] (fun s6 wy => ∃ (k2 : Nat) (bo : Option Addr) (bc : Nat) (l2 : List Bs), k2 ≤ batches.length ∧ s6 = .int .i64 (k2 : Int) ∧ l2.length = k2 ∧ dB l2 = (dB batches).take k2 ∧ OW w mm ⟨⟨kind, bn, br, first, last, commit⟩, ao, ac, l, bo, bc, l2, pl, a5, c5⟩ wy) (fun s6 _ => batches.length - (intOf s6).toNat)
      case atStart => exact ⟨0, none, 0, [], Nat.zero_le _, rfl, rfl, rfl, O.out⟩
      case round =>
        obtain ⟨k2, bo, bc, l2, hk2, rfl, hlk2, hdl2, how2⟩ := hrel
        rename World => wy
        have Y := Lib.hid how2
        have HLK2 := Lib.hid hlk2
        have HDL2 := Lib.hid hdl2
        have HY1 := Lib.hid (how2.b1)
        have HY3 := Lib.hid (how2.b3)
        unfold mC at HY1 HY3
        rw [HK1.out] at HY3
        dsimp only at HY3
        rw [HLK.out, hlk2] at HY3
        have e6 : mm.votes = votes ∧ mm.vo = vo ∧ mm.vc = vc ∧ mm.batches = batches ∧ mm.so = so ∧ mm.sc = sc := by rw [← HMM.out]; exact ⟨rfl, rfl, rfl, rfl, rfl, rfl⟩
        rw [e6.1, e6.2.1, e6.2.2.1, e6.2.2.2.1, e6.2.2.2.2.1, e6.2.2.2.2.2] at HY1
        have hzy := how2.lt
        clear how2 hlk2 hdl2 O HR1 HR3 e6
        by_cases hlt2 : k2 < batches.length
        case neg =>
          have hke2 : k2 = batches.length := by omega
          subst hke2
          have HDB : Hid (dB l2 = dB batches) := Lib.hid (by rw [HDL2.out, List.take_of_length_le (by rw [dB_length]; exact Nat.le_refl _)])
          have c7 := cell_of_block (i := 7) HY1.out
          simp only [List.getElem?_toArray, List.getElem?_cons_succ, List.getElem?_cons_zero] at c7
          have HY2 := Lib.hid Y.out.b2
          have d0 := cell_of_block (i := 0) HY3.out
          have d1 := cell_of_block (i := 1) HY3.out
          have d2 := cell_of_block (i := 2) HY3.out
          have d3 := cell_of_block (i := 3) HY3.out
          have d4 := cell_of_block (i := 4) HY3.out
          have d5 := cell_of_block (i := 5) HY3.out
          have d6 := cell_of_block (i := 6) HY3.out
          have d7 := cell_of_block (i := 7) HY3.out
          have d8 := cell_of_block (i := 8) HY3.out
          simp only [List.getElem?_toArray, List.getElem?_cons_succ, List.getElem?_cons_zero] at d0 d1 d2 d3 d4 d5 d6 d7 d8
          have z0 := cell_of_block (i := 0) HY2.out
          have y0 := free_of_block (i := 0) HY2.out
          have z1 := cell_of_block (i := 1) HY2.out
          have y1 := free_of_block (i := 1) HY2.out
          have z2 := cell_of_block (i := 2) HY2.out
          have y2 := free_of_block (i := 2) HY2.out
          have z3 := cell_of_block (i := 3) HY2.out
          have y3 := free_of_block (i := 3) HY2.out
          have z4 := cell_of_block (i := 4) HY2.out
          have y4 := free_of_block (i := 4) HY2.out
          have z5 := cell_of_block (i := 5) HY2.out
          have y5 := free_of_block (i := 5) HY2.out
          have z6 := cell_of_block (i := 6) HY2.out
          have y6 := free_of_block (i := 6) HY2.out
          have z7 := cell_of_block (i := 7) HY2.out
          have y7 := free_of_block (i := 7) HY2.out
          have z8 := cell_of_block (i := 8) HY2.out
          have y8 := free_of_block (i := 8) HY2.out
          simp only [List.getElem?_toArray, List.getElem?_cons_succ, List.getElem?_cons_zero] at z0 z1 z2 z3 z4 z5 z6 z7 z8
          go_wp2_with fail
          ((try simp only [Exit.inBlock, Exit.then]); refine bodyPost_ret (by simp [results, Tryd.results12, go_sem, *]; try rfl) rfl ?_)
          refine ⟨⟨⟨kind, bn, br, first, last, commit⟩, ao, ac, l, bo, bc, l2, pl, a5, c5⟩, ?_, ?_, ?_, ?_⟩
          · unfold msgV mC
            dsimp only
            rw [HLK.out, HLK2.out]
          · rw [HD.out]
            unfold Mm.d
            dsimp only
            rw [HDV.out, HDB.out]
          · exact (Y.out.nm.off (S := [w.heap.size + 1]) (((((((((Mod.setCell _ _ _ (by simp)).trans' (Mod.setCell _ _ _ (by simp))).trans' (Mod.setCell _ _ _ (by simp))).trans' (Mod.setCell _ _ _ (by simp))).trans' (Mod.setCell _ _ _ (by simp))).trans' (Mod.setCell _ _ _ (by simp))).trans' (Mod.setCell _ _ _ (by simp))).trans' (Mod.setCell _ _ _ (by simp))).trans' (Mod.setCell _ _ _ (by simp))) (by simp)).grow (by omega)
          · exact Y.out.mod.trans (T := [w.heap.size + 1]) (((((((((Mod.setCell _ _ _ (by simp)).trans' (Mod.setCell _ _ _ (by simp))).trans' (Mod.setCell _ _ _ (by simp))).trans' (Mod.setCell _ _ _ (by simp))).trans' (Mod.setCell _ _ _ (by simp))).trans' (Mod.setCell _ _ _ (by simp))).trans' (Mod.setCell _ _ _ (by simp))).trans' (Mod.setCell _ _ _ (by simp))).trans' (Mod.setCell _ _ _ (by simp))) (by simp)
        have hlt3 : (k2 : Int) < (batches.length : Int) := by omega
        have c7' := cell_of_block (i := 7) HY1.out
        simp only [List.getElem?_toArray, List.getElem?_cons_succ, List.getElem?_cons_zero] at c7'
        go_upto_region 14 with (fail)
        clear c7'
        obtain ⟨b, off, rfl, hc⟩ := HSB.out.batch hlt2
        have hx9 := HFB.out _ (List.getElem_mem hlt2)
        have hst : (dB batches).take (k2 + 1) = (dB batches).take k2 ++ [batches[k2].1] := by
          rw [List.take_succ_eq_append_getElem (by rw [dB_length]; exact hlt2), dB_get batches k2 hlt2]
        obtain ⟨⟨x, xo, xc⟩, hx⟩ : ∃ x', batches[k2] = x' := ⟨_, rfl⟩
        rw [hx] at hst hx9 hc
        dsimp only at hst hx9 hc
        have HST := Lib.hid hst
        have HCC := Lib.hid hc
        clear hst hx hc
        refine restu_start 10 [] ((w.heap.size + 2) :: blk bo) 13 #[false, false, false, false, false, false, false, false, false, false, false, false, false] rfl (by kernel_rfl) (by kernel_rfl) ?_
        intro w6 m6
        have Y6 := Lib.hid (Y.out.still m6)
        have C7m := Lib.hid (cell_of_block (i := 7) (m6.get HY1.out List.not_mem_nil))
        have C7n := Lib.hid (cell_of_block (i := 7) (m6.get HY3.out List.not_mem_nil))
        have HY36 := Lib.hid (m6.get HY3.out List.not_mem_nil)
        obtain ⟨p0, px⟩ := HCC.out w6 Y6.out.mod
        have P0 := Lib.hid p0
        have PX := Lib.hid px
        have hz6 := Y6.out.lt
        have hbo : ∀ i, i ∈ blk bo → w.heap.size + 3 ≤ i := Y6.out.nm.batches.at'
        have hbl : ∀ i, i ∈ blk bo → i < w6.heap.size := Own.lt Y6.out.nm.batches.own
        clear m6 p0 px Y HY1 HY3 HCC
        refine restu_got (i := 0) (v := ?v1) rfl (by kernel_rfl) (by kernel_rfl) (by kernel_rfl) (by rfl) (fun _ _ _ h => h) (by rfl) ?y1 ?r1
        case y1 => (intro w9q hSwq; clear hSwq; go_simp; with_reducible rfl)
        try simp only [Act.put, List.setIfInBounds_toArray, List.set_cons_zero, List.set_cons_succ]
        refine restu_early (i := 1) [10, 11, 12] (v := ?v2) rfl (by kernel_rfl) (by kernel_rfl) (by kernel_rfl) (by rfl) (by kernel_rfl) (by rfl) (by kernel_rfl) (fun _ _ _ h => h) (by rfl) ?y2 ?r2
        case y2 => ((intro w9' hm9'; have hc9' := Mod.cell hm9' C7n.out (by first | exact List.not_mem_nil | assumption | (simp; done) | (simp; omega)); clear hm9'; go_simp; with_reducible rfl))
        try simp only [Act.put, List.setIfInBounds_toArray, List.set_cons_zero, List.set_cons_succ]
        refine restu_got (i := 3) (v := ?v3) rfl (by kernel_rfl) (by kernel_rfl) (by kernel_rfl) (by rfl) (fun _ _ _ h => h) (by rfl) ?y3 ?r3
        case y3 => (intro w9q hSwq; clear hSwq; go_simp; with_reducible rfl)
        try simp only [Act.put, List.setIfInBounds_toArray, List.set_cons_zero, List.set_cons_succ]
        refine restu_early (i := 4) [6, 7, 8, 9, 10, 11, 12] (v := ?v4) rfl (by kernel_rfl) (by kernel_rfl) (by kernel_rfl) (by rfl) (by kernel_rfl) (by rfl) (by kernel_rfl) (fun _ _ _ h => h) (by rfl) ?y4 ?r4
        case y4 => ((intro w9' hm9'; have hc9' := Mod.cell hm9' C7m.out (by first | exact List.not_mem_nil | assumption | (simp; done) | (simp; omega)); clear hm9'; go_simp; with_reducible rfl))
        try simp only [Act.put, List.setIfInBounds_toArray, List.set_cons_zero, List.set_cons_succ]
        refine restu_got (i := 5) (v := ?v5) rfl (by kernel_rfl) (by kernel_rfl) (by kernel_rfl) (by rfl) (fun _ _ _ h => h) (by rfl) ?y5 ?r5
        case y5 => (intro w9q hSwq; clear hSwq; go_simp; with_reducible rfl)
        try simp only [Act.put, List.setIfInBounds_toArray, List.set_cons_zero, List.set_cons_succ]
        refine restu_got (i := 6) (v := ?v6) rfl (by kernel_rfl) (by kernel_rfl) (by kernel_rfl) (by rfl) (fun _ _ _ h => h) (by rfl) ?y6 ?r6
        case y6 => (intro w9q hSwq; clear hSwq; go_simp; with_reducible rfl)
        try simp only [Act.put, List.setIfInBounds_toArray, List.set_cons_zero, List.set_cons_succ]
        refine restu_early (i := 7) [8, 9, 10, 11, 12] (v := ?v7) rfl (by kernel_rfl) (by kernel_rfl) (by kernel_rfl) (by rfl) (by kernel_rfl) (by rfl) (by kernel_rfl) (fun _ _ _ h => h) (by rfl) ?y7 ?r7
        case y7 => ((intro w9' hm9'; have hc9' := Mod.cell hm9' P0.out (by first | exact List.not_mem_nil | assumption | (simp; done) | (simp; omega)); clear hm9'; go_simp; with_reducible rfl))
        try simp only [Act.put, List.setIfInBounds_toArray, List.set_cons_zero, List.set_cons_succ]
        have me := Mod.alloc [] w6 (.cells #[] 5)
        have he := ob_empty w6
        obtain ⟨w7, hw7⟩ : ∃ x', w6.alloc (.cells #[] 5) = x' := ⟨_, rfl⟩
        have hz7 : w7.heap.size = w6.heap.size + 1 := by rw [← hw7]; simp
        rw [hw7] at me he
        have HE := Lib.hid he
        have PX7 := Lib.hid (PX.out.mod0 me)
        have HY37 := Lib.hid (me.get HY36.out List.not_mem_nil)
        refine restu_one (i := 2) (by kernel_rfl) rfl (by rfl) ?_
        go_wp2_with fail
        refine backu_to (K' := [w6.heap.size]) (K2' := w6.heap.size :: (w.heap.size + 2) :: blk bo) me.nil (by simp) (by simp) (fun i h h' => by simp at h; rcases h with h | h | h; omega; simp [h]; simp [h]) ?_
        have ME := Lib.hid me
        clear me he PX C7m C7n P0 hw7 HY36
        
        refine restu_one (i := 8) (by kernel_rfl) rfl (by rfl) ?_
        go_wp2_with (first | (at_builtin; refine wpl_app8 (dst := some 53) _ _ (some ⟨w6.heap.size, 0, none⟩) 0 0 [] rfl rfl HE.out xo x.length xc x rfl rfl PX7.out (by omega) ?_) | fail)
        intro a8 c8 w8 o8 m8 s8
        rw [List.nil_append] at o8
        have hm8 : Mod [w6.heap.size] w7 w8 := m8
        have NB8 : Hid (NewB (w.heap.size + 3) w8 (x, a8, c8)) := Lib.hid ⟨o8, fun i hi => by
          rcases s8.blk i hi with h | h
          · simp [blk] at h; omega
          · omega⟩
        have m68 : Mod [] w6 w8 := ME.out.trans hm8 (by simp)
        have Y8 := Lib.hid (Y6.out.still m68)
        have HY38 := Lib.hid (hm8.get HY37.out (by simp; omega))
        have hz68 := hm8.size
        go_wp2_with fail
        refine backu_to (K' := []) (K2' := (w.heap.size + 2) :: blk bo) hm8 (by simp) (by simp) (fun i h h' => by simp at h; rcases h with h | h; simp [h]; simp [h]) ?_
        clear o8 m8 s8 hm8 m68 Y6 HE PX7 HY37 ME
        
        have m9 := Mod.alloc [] w8 (.cells #[.slice a8 x.length c8] 27)
        have sh9 := shows_one (f := bsV) (x := ((x, a8, c8) : Bs)) (t := 27) (z := (0, 0)) (w := w8.alloc (.cells #[.slice a8 x.length c8] 27)) (g := w8.heap.size) (heap_alloc_new w8 _)
        obtain ⟨w9, hw9⟩ : ∃ x', w8.alloc (.cells #[.slice a8 x.length c8] 27) = x' := ⟨_, rfl⟩
        rw [hw9] at m9 sh9
        have SH9 := Lib.hid sh9
        have Y9 := Lib.hid (Y8.out.still m9)
        have NB9 := Lib.hid (NB8.out.mod0 m9)
        have HY39 := Lib.hid (m9.get HY38.out List.not_mem_nil)
        refine restu_one (i := 9) (by kernel_rfl) rfl (by rfl) ?_
        go_wp2_with fail
        refine backu_to (K' := []) (K2' := (w.heap.size + 2) :: blk bo) m9 (by simp) (by simp) (fun i h h' => h) ?_
        clear m9 sh9 Y8 NB8 HY38 hw9
        
        refine restu_one (i := 10) (by kernel_rfl) rfl (by rfl) ?_
        go_wp2_with (first | (at_builtin; refine wpl_appM (f := bsV) (dst := some 55) _ _ 26 _ 24 Tryd.underlying26 infoBs rfl (fun _ => rfl) k2 l2 rfl HLK2.out Y9.out.nm.batches.own _ 1 1 [((x, a8, c8) : Bs)] rfl rfl SH9.out (by omega) (by omega) ?_) | fail)
        intro a10 c10 w10 o10 m10 n10
        have hz9 := Y9.out.lt
        have NV10 := Lib.hid (Y9.out.nm.batches.app NB9.out o10 m10 n10 (by omega))
        have NP10 := Lib.hid (Y9.out.nm.snap.mod m10 (own_apart Y9.out.nm.snap.1 Y9.out.nm.batches.own (by decide)))
        have NW10 : Hid (NewVs (w.heap.size + 3) w10 ao ac l) := Lib.hid ⟨Own.mod Y9.out.nm.votes.own m10 (own_apart Y9.out.nm.votes.own Y9.out.nm.batches.own (by decide)), Y9.out.nm.votes.at', fun v hv => (Y9.out.nm.votes.el v hv).mod m10 (own_apart (Y9.out.nm.votes.el v hv).1 Y9.out.nm.batches.own (by decide))⟩
        have HY310 := Lib.hid (m10.get HY39.out (fun hi => by have := hbo _ hi; omega))
        have B1 := Lib.hid (m10.get Y9.out.b1 (fun hi => by have := hbo _ hi; omega))
        have B2 := Lib.hid (m10.get Y9.out.b2 (fun hi => by have := hbo _ hi; omega))
        have MM10 := Lib.hid (Y9.out.mod.trans m10 (fun i hi hl => by have := hbo i hi; omega))
        have f7 := free_of_block (i := 7) HY310.out
        have z7 := cell_of_block (i := 7) HY310.out
        simp only [List.getElem?_toArray, List.getElem?_cons_succ, List.getElem?_cons_zero] at z7
        have HLL : Hid ((l2 ++ [((x, a8, c8) : Bs)]).length = k2 + 1) := Lib.hid (by rw [List.length_append, HLK2.out]; rfl)
        have kk : Mod [w.heap.size + 2] w10 (w10.setCell ⟨w.heap.size + 2, 7, none⟩ (.slice a10 (k2 + 1) c10)) := Mod.setCell _ _ _ (by simp)
        have HO11 : Hid (OW w mm ⟨⟨kind, bn, br, first, last, commit⟩, ao, ac, l, a10, c10, l2 ++ [((x, a8, c8) : Bs)], pl, a5, c5⟩ (w10.setCell ⟨w.heap.size + 2, 7, none⟩ (.slice a10 (k2 + 1) c10))) := Lib.hid (by
          have hb := heap_setCell_same (i := 7) HY310.out (.slice a10 (k2 + 1) c10)
          refine ⟨kk.get B1.out (by simp), kk.get B2.out (by simp), ?_, ⟨NW10.out.off kk (by simp), NV10.out.off kk (by simp), NP10.out.off kk (by simp)⟩, MM10.out.trans kk (by simp)⟩
          rw [HK1.out]
          unfold mC
          dsimp only
          rw [HLL.out, HLK.out]
          simp only [List.setIfInBounds_toArray, List.set_cons_zero, List.set_cons_succ] at hb
          exact hb)
        have HDD : Hid (dB (l2 ++ [((x, a8, c8) : Bs)]) = (dB batches).take (k2 + 1)) := Lib.hid (by
          rw [HST.out, ← HDL2.out]
          unfold dB
          rw [List.map_append]
          rfl)
        have KK := Lib.hid kk
        go_wp2_with fail
        refine backm_to (K1 := [w.heap.size + 2]) (by kernel_rfl) (m10.weaken (fun j hj => by simp [hj])) (fun j hj _ => by simp at hj; simp [hj]) ?_
        clear o10 m10 n10 Y9 NB9 SH9 HY39 NV10 NP10 NW10 B1 B2 MM10 kk hz7 hzy hz6 hz68 hz9 hbl
        refine rest_got (i := 11) (v := ?v8) rfl (by kernel_rfl) (by kernel_rfl) (by kernel_rfl) (fun _ _ _ h => h) (by rfl) ?y8 ?r8
        case y8 => (intro w9q hSwq; clear hSwq; go_simp; with_reducible rfl)
        try simp only [Act.put, List.setIfInBounds_toArray, List.set_cons_zero, List.set_cons_succ]
        refine rest_one (i := 12) (by kernel_rfl) rfl (by rfl) ?_
        go_wp2_with fail
        refine back_to (K1 := []) KK.out (by simp) ?_
        clear KK f7 z7 HY310
        refine rest_done (by kernel_rfl) ?_ _
        go_wp2_with fail
        go_roundw
        case rel => exact ⟨k2 + 1, a10, c10, _, by omega, by go_num, HLL.out, HDD.out, HO11.out⟩
        case measure => simp [intOf]; omega
    have hlt2 : (k : Int) < (votes.length : Int) := by omega
    obtain ⟨b, off, rfl, hc⟩ := HSV.out.vote hlt
    obtain ⟨p0, p1, p2, p3, px⟩ := hc wr O.out.mod
    have hx9 := HFV.out _ (List.getElem_mem hlt)
    have hst : (dV votes).take (k + 1) = (dV votes).take k ++ [(votes[k].1, votes[k].2.1)] := by
      rw [List.take_succ_eq_append_getElem (by rw [dV_length]; exact hlt), dV_get votes k hlt]
    obtain ⟨⟨⟨sl, n1, r1⟩, x, xo, xc⟩, hx⟩ : ∃ x, votes[k] = x := ⟨_, rfl⟩
    rw [hx] at p0 p1 p2 p3 px hst hx9
    dsimp only at p0 p1 p2 p3 px hst hx9
    have HST := Lib.hid hst
    have PX := Lib.hid px
    clear hc hst hx px
    have mv := Mod.alloc [] wr (.cells #[.int .u64 0, .int .u64 0, .int .i64 0, .slice none 0 0] 52)
    have hbv := heap_alloc_new wr (.cells #[.int .u64 0, .int .u64 0, .int .i64 0, .slice none 0 0] 52)
    obtain ⟨wv, hwv⟩ : ∃ x, wr.alloc (.cells #[.int .u64 0, .int .u64 0, .int .i64 0, .slice none 0 0] 52) = x := ⟨_, rfl⟩
    rw [hwv] at mv hbv
    have z0 := cell_of_block (i := 0) hbv
    have y0 := free_of_block (i := 0) hbv
    have z1 := cell_of_block (i := 1) hbv
    have y1 := free_of_block (i := 1) hbv
    have z2 := cell_of_block (i := 2) hbv
    have y2 := free_of_block (i := 2) hbv
    have z3 := cell_of_block (i := 3) hbv
    have y3 := free_of_block (i := 3) hbv
    simp only [List.getElem?_toArray, List.getElem?_cons_succ, List.getElem?_cons_zero] at z0 z1 z2 z3
    go_upto_region 9 with (fail)
    obtain ⟨wx, hwx⟩ : ∃ x', ((((wv.setCell ⟨wr.heap.size, 0, none⟩ (.int .u64 (sl : Int))).setCell ⟨wr.heap.size, 1, none⟩ (.int .u64 (n1 : Int))).setCell ⟨wr.heap.size, 2, none⟩ (.int .i64 r1)).setCell ⟨wr.heap.size, 3, none⟩ (.slice xo x.length xc)) = x' := ⟨_, rfl⟩
    rw [hwx]
    have hbx : wx.heap[wr.heap.size]? = some (.cells #[.int .u64 (sl : Int), .int .u64 (n1 : Int), .int .i64 r1, .slice xo x.length xc] 52 (0, 0)) := by
      rw [← hwx]
      have h := (heap_setCell_same (i := 3) (heap_setCell_same (i := 2) (heap_setCell_same (i := 1) (heap_setCell_same (i := 0) hbv (.int .u64 (sl : Int))) (.int .u64 (n1 : Int))) (.int .i64 r1)) (.slice xo x.length xc))
      simp only [List.setIfInBounds_toArray, List.set_cons_zero, List.set_cons_succ] at h
      exact h
    have mx : Mod [] wr wx := by
      rw [← hwx]
      exact mv.trans (T := [wr.heap.size]) ((((Mod.setCell _ _ _ (by simp)).trans' (Mod.setCell _ _ _ (by simp))).trans' (Mod.setCell _ _ _ (by simp))).trans' (Mod.setCell _ _ _ (by simp))) (by simp)
    have me := Mod.alloc [] wx (.cells #[] 5)
    have he := ob_empty wx
    obtain ⟨we2, hwe⟩ : ∃ x, wx.alloc (.cells #[] 5) = x := ⟨_, rfl⟩
    have hze2 : we2.heap.size = wx.heap.size + 1 := by rw [← hwe]; simp
    rw [hwe] at me he
    have hlx := lt_of_block hbx
    have HE := Lib.hid he
    have HBX := Lib.hid (me.get hbx List.not_mem_nil)
    have MX := Lib.hid (mx.trans' me)
    have PX2 := Lib.hid (PX.out.mod0 MX.out)
    clear z0 z1 z2 z3 y0 y1 y2 y3 p0 p1 p2 p3 c6 hwx hbx mx me he mv hbv hwv PX
    have c3 := cell_of_block (i := 3) HBX.out
    simp only [List.getElem?_toArray, List.getElem?_cons_succ, List.getElem?_cons_zero] at c3
    go_wp2_with (first | (at_builtin; refine wpl_app8 (dst := some 30) _ _ (some ⟨wx.heap.size, 0, none⟩) 0 0 [] rfl rfl HE.out xo x.length xc x rfl rfl PX2.out (by omega) ?_) | fail)
    intro a6 c6 w6 o6 m6 s6
    rw [List.nil_append] at o6
    have HB6 := Lib.hid (m6.get HBX.out (by simp [blk]; omega))
    have M6 := Lib.hid (MX.out.trans m6 (fun i hi hl => by simp [blk] at hi; omega))
    have NB6 : Hid (NewB (wr.heap.size + 1) w6 (x, a6, c6)) := Lib.hid ⟨o6, fun k hk => by
      rcases s6.blk k hk with h | h
      · simp [blk] at h; omega
      · omega⟩
    clear o6 m6 s6 HBX MX HE PX2 c3 hwe
    have z3 := cell_of_block (i := 3) HB6.out
    have y3 := free_of_block (i := 3) HB6.out
    simp only [List.getElem?_toArray, List.getElem?_cons_succ, List.getElem?_cons_zero] at z3
    go_upto_region 10 with (fail)
    have m7 : Mod [wr.heap.size] w6 (w6.setCell ⟨wr.heap.size, 3, none⟩ (.slice a6 x.length c6)) := Mod.setCell _ _ _ (by simp)
    have hb7 := heap_setCell_same (i := 3) HB6.out (.slice a6 x.length c6)
    obtain ⟨w7, hw7⟩ : ∃ x', w6.setCell ⟨wr.heap.size, 3, none⟩ (.slice a6 x.length c6) = x' := ⟨_, rfl⟩
    rw [hw7] at m7 hb7
    rw [hw7]
    have HB7 : Hid (w7.heap[wr.heap.size]? = some (.cells #[.int .u64 (sl : Int), .int .u64 (n1 : Int), .int .i64 r1, .slice a6 x.length c6] 52 (0, 0))) := Lib.hid hb7
    have M7 := Lib.hid (M6.out.trans m7 (by simp))
    have NB7 := Lib.hid (NB6.out.off m7 (by simp))
    have O7 := Lib.hid (O.out.still M7.out)
    have HR37 := Lib.hid (M7.out.get HR3.out List.not_mem_nil)
    clear m7 hb7 HB6 M6 NB6 z3 y3 hw7
    have d0 := cell_of_block (i := 0) HB7.out
    have d1 := cell_of_block (i := 1) HB7.out
    have d2 := cell_of_block (i := 2) HB7.out
    have d3 := cell_of_block (i := 3) HB7.out
    simp only [List.getElem?_toArray, List.getElem?_cons_succ, List.getElem?_cons_zero] at d0 d1 d2 d3
    have c6' := cell_of_block (i := 6) HR37.out
    simp only [List.getElem?_toArray, List.getElem?_cons_succ, List.getElem?_cons_zero] at c6'
    have m8 := Mod.alloc [] w7 (.cells #[.int .u64 (sl : Int), .int .u64 (n1 : Int), .int .i64 r1, .slice a6 x.length c6] 52)
    have sh8 := showsV (x := ((⟨sl, n1, r1⟩, x, a6, c6) : Vm)) (t := 52) (z := (0, 0)) (w := w7.alloc (.cells #[.int .u64 (sl : Int), .int .u64 (n1 : Int), .int .i64 r1, .slice a6 x.length c6] 52)) (g := w7.heap.size) (heap_alloc_new w7 _)
    obtain ⟨w8, hw8⟩ : ∃ x', w7.alloc (.cells #[.int .u64 (sl : Int), .int .u64 (n1 : Int), .int .i64 r1, .slice a6 x.length c6] 52) = x' := ⟨_, rfl⟩
    rw [hw8] at m8 sh8
    have SH8 := Lib.hid sh8
    have O8 := Lib.hid (O7.out.still m8)
    have NB8 := Lib.hid ((NB7.out.mod0 m8).grow (B' := w.heap.size + 3) (by omega))
    have HR38 := Lib.hid (m8.get HR37.out List.not_mem_nil)
    have hol6 : k + 1 ≤ 1000000 := by omega
    clear m8 sh8 O7 NB7 HR37
    go_wp2_with (first | (at_builtin; refine wpl_appV (dst := some 36) _ _ ao k ac l rfl HLK.out O8.out.nm.votes.own _ ((⟨sl, n1, r1⟩, x, a6, c6) : Vm) rfl SH8.out hol6 ?_) | fail)
    intro a9 c9 w9 o9 m9 n9
    have hz8 := O8.out.lt
    have NV9 := Lib.hid (O8.out.nm.votes.app NB8.out o9 m9 n9 (by omega))
    have NP9 := Lib.hid (O8.out.nm.snap.mod m9 (own_apart O8.out.nm.snap.1 O8.out.nm.votes.own (by decide)))
    have HR39 := Lib.hid (m9.get HR38.out (fun hi => by have := O8.out.nm.votes.at' _ hi; omega))
    have O9' : Hid (∀ n : Mm, mC (.int .u8 (mm.h.kind : Int)) n = mC (.int .u8 (mm.h.kind : Int)) ⟨⟨kind, bn, br, first, last, commit⟩, ao, ac, l, none, 0, [], pl, a5, c5⟩ → NewM (w.heap.size + 3) w9 n → OW w mm n w9) := Lib.hid (fun n hn hnm => by
      have hv := O8.out.nm.votes.at'
      exact ⟨m9.get O8.out.b1 (fun hi => by have := hv _ hi; omega), m9.get O8.out.b2 (fun hi => by have := hv _ hi; omega), by rw [hn]; exact m9.get O8.out.b3 (fun hi => by have := hv _ hi; omega), hnm, O8.out.mod.trans m9 (fun i hi hl => by have := hv i hi; omega)⟩)
    have f6 := free_of_block (i := 6) HR39.out
    have z6 := cell_of_block (i := 6) HR39.out
    simp only [List.getElem?_toArray, List.getElem?_cons_succ, List.getElem?_cons_zero] at z6
    have HLL : Hid ((l ++ [((⟨sl, n1, r1⟩, x, a6, c6) : Vm)]).length = k + 1) := Lib.hid (by rw [List.length_append, HLK.out]; rfl)
    have HO10 : Hid (OW w mm ⟨⟨kind, bn, br, first, last, commit⟩, a9, c9, l ++ [((⟨sl, n1, r1⟩, x, a6, c6) : Vm)], none, 0, [], pl, a5, c5⟩ (w9.setCell ⟨w.heap.size + 2, 6, none⟩ (.slice a9 (k + 1) c9))) := Lib.hid (by
      have hv := O8.out.nm.votes.at'
      have kk : Mod [w.heap.size + 2] w9 (w9.setCell ⟨w.heap.size + 2, 6, none⟩ (.slice a9 (k + 1) c9)) := Mod.setCell _ _ _ (by simp)
      have hb := heap_setCell_same (i := 6) HR39.out (.slice a9 (k + 1) c9)
      refine ⟨kk.get (m9.get O8.out.b1 (fun hi => by have := hv _ hi; omega)) (by simp), kk.get (m9.get O8.out.b2 (fun hi => by have := hv _ hi; omega)) (by simp), ?_, ⟨NV9.out.off kk (by simp), NewBs.nil _ _, NP9.out.off kk (by simp)⟩, (O8.out.mod.trans m9 (fun i hi hl => by have := hv i hi; omega)).trans kk (by simp)⟩
      rw [HK1.out]
      unfold mC
      dsimp only
      rw [HLL.out]
      exact hb)
    have HDD : Hid (dV (l ++ [((⟨sl, n1, r1⟩, x, a6, c6) : Vm)]) = (dV votes).take (k + 1)) := Lib.hid (by
      rw [HST.out, ← HDL.out]
      unfold dV
      rw [List.map_append]
      rfl)
    clear o9 m9 n9 O8 NB8 SH8 HR38 NV9 NP9 HR39 O9' d0 d1 d2 d3 c6' hw8
    go_wp2_with fail
    go_roundw
    case rel => exact ⟨k + 1, a9, c9, _, by omega, by go_num, HLL.out, HDD.out, HO10.out⟩
    case measure => simp [intOf]; omega
end Go.Proofs.YtekdnljincbghaaDoor
