/- The walk of quoratelaw17.MsgKnown. -/
import Derived.Test.YtekdnljincbghaaDoorHMsgK2
import Derived.Test.YtekdnljincbghaaDoorHRegAny
import Derived.Lib.SlBytesConst
namespace Go.Proofs.YtekdnljincbghaaDoor
open Go Go.RowKit Go.Lib

theorem wpl_mkB {w : World} {ops : Array Oper} {rest : List Oper} {a : Act} {Q : Exit → Act → World → Prop} {dst : Option Tmp} {ty : TypeId} {pos : String} {after : Array Edge} (l c : Operand)
    (L : Int) (n : Nat) (hl : a.eval l = .int .i64 L) (hc : a.eval c = .int .i64 L) (hL : L = (n : Int)) (hb : n ≤ 1000)
    (h : ∀ g w', w'.heap[g]? = some (.cells (madeCells (Value.cells (.slice none 0 0)) (n * 1)) 27 (0, 0)) → Mod [] w w' → wpList Tryd.prog ops Q rest (a.put dst (.slice (some ⟨g, 0, none⟩) n n)) w') :
    wpList Tryd.prog ops Q (⟨dst, .makeSlice 26 l c, ty, pos, after, none⟩ :: rest) a w := by
  obtain ⟨i0, hi, hz0, hz1, hz2⟩ := info_parts infoBs
  have hr := runs_make (P := Tryd.prog) a.eval (dst := dst) (ty := ty) (pos := pos) (after := after) (n := n) Tryd.underlying26 hi hz0 hz1 hz2 hl hc hL (by omega) (by unfold maxLen; omega) w
  refine wpList_plain rfl fun K hK' => ?_
  unfold Oper.wp
  rw [hr]
  exact hK' _ _ (h _ _ (heap_alloc_new w _) (Mod.alloc _ _ _))
theorem infoRow : (Tryd.prog.info? 50).map (fun i => (i.zero, i.size, i.bytes)) = some (some (.agg #[.int .u8 0, .int .u64 0, .int .i64 0, .int .u64 0, .int .u64 0, .int .u64 0, .slice none 0 0, .slice none 0 0, .slice none 0 0, .string ⟨#[]⟩]), 10, 136) := by kernel_rfl
set_option maxRecDepth 100000 in
set_option maxHeartbeats 16000000 in
theorem msgKnown_any (w : World) (hf : Flds w) (hT : TableAt w T0) :
    Calls Tryd.prog 5 #[] w fun e w' => e = .returned (.bool true) ∧ Mod [] w w' := by
  have WK : Hid (∀ w', Mod [] w w' → Calls Tryd.prog 11 #[] w' fun e w'' => e = .returned (.bool true) ∧ Mod [] w' w'') := Lib.hid (fun w' m => wakes17_any w' (hf.mod0 m) (hT.mod0 m))
  have HF := Lib.hid hf
  have HT := Lib.hid hT
  clear hf hT
  obtain ⟨wz, hwz, hbz, hmz⟩ : ∃ x, w.alloc (.cells #[.int .u64 0, .int .i64 0] 24) = x ∧ x.heap[w.heap.size]? = some (.cells #[.int .u64 0, .int .i64 0] 24 (0, 0)) ∧ Mod [] w x := ⟨_, rfl, heap_alloc_new w _, Mod.alloc _ _ _⟩
  have z0 := cell_of_block (i := 0) hbz
  have y0 := free_of_block (i := 0) hbz
  have z1 := cell_of_block (i := 1) hbz
  have y1 := free_of_block (i := 1) hbz
  simp only [List.getElem?_toArray, List.getElem?_cons_succ, List.getElem?_cons_zero] at z0 z1
  go_enter Tryd.func5, Tryd.ntmps5
  go_upto_region 2 with (fail)
  obtain ⟨v0, hv0⟩ : ∃ x, ((wz.setCell ⟨w.heap.size, 0, none⟩ (.int .u64 2)).setCell ⟨w.heap.size, 1, none⟩ (.int .i64 1)) = x := ⟨_, rfl⟩
  rw [hv0]
  have hb0 : v0.heap[w.heap.size]? = some (.cells #[.int .u64 2, .int .i64 1] 24 (0, 0)) := by
    rw [← hv0]
    have h := (heap_setCell_same (i := 1) (heap_setCell_same (i := 0) hbz (.int .u64 2)) (.int .i64 1))
    simp only [List.setIfInBounds_toArray, List.set_cons_zero, List.set_cons_succ] at h
    exact h
  have mv0 : Mod [] w v0 := by
    rw [← hv0]
    exact hmz.trans (T := [w.heap.size]) ((Mod.setCell _ _ _ (by simp)).trans' (Mod.setCell _ _ _ (by simp))) (by simp)
  obtain ⟨iv, ivv, iv0, iv1, iv2⟩ := info_parts infoVote
  obtain ⟨ir, irr, ir0, ir1, ir2⟩ := info_parts infoRow
  obtain ⟨ib, ibb, ib0, ib1, ib2⟩ := info_parts infoBs
  have HB0 := Lib.hid hb0
  have M0 := Lib.hid mv0
  clear z0 z1 y0 y1 hbz hmz hwz hv0 hb0 mv0
  obtain ⟨u1, hu1⟩ : ∃ x, v0.alloc (.cells #[.int .u8 120] 5) = x := ⟨_, rfl⟩
  obtain ⟨v1, hv1, hb1, mv1⟩ : ∃ x, v0.alloc (.cells #[.int .u8 120] 5 (1, 2)) = x ∧ x.heap[v0.heap.size]? = some (.cells #[.int .u8 120] 5 (1, 2)) ∧ Mod [] v0 x := ⟨_, rfl, heap_alloc_new v0 _, Mod.alloc _ _ _⟩
  have cv1 : (convert 27 27 (.slice (some ⟨v0.heap.size, 0, none⟩) 1 1)).run Tryd.prog (v0.alloc (.cells #[.int .u8 120] 5)) = .ok (.slice (some ⟨v0.heap.size, 0, none⟩) 1 1) (v0.alloc (.cells #[.int .u8 120] 5 (1, 2))) := Lib.run_convert_bytes_const (P := Tryd.prog) v0 27 5 #[.int .u8 120] 1 1 Tryd.underlying27 Tryd.underlying5
  obtain ⟨g1, hg1⟩ : ∃ x, v0.heap.size = x := ⟨_, rfl⟩
  rw [hg1] at hb1
  rw [hg1, hu1, hv1] at cv1
  clear hv1
  obtain ⟨v2, hv2, hb2, mv2⟩ : ∃ x, v1.alloc (.cells #[.slice (some ⟨g1, 0, none⟩) 1 1] 27) = x ∧ x.heap[v1.heap.size]? = some (.cells #[.slice (some ⟨g1, 0, none⟩) 1 1] 27 (0, 0)) ∧ Mod [] v1 x := ⟨_, rfl, heap_alloc_new v1 _, Mod.alloc _ _ _⟩
  obtain ⟨g2, hg2⟩ : ∃ x, v1.heap.size = x := ⟨_, rfl⟩
  rw [hg2] at hb2
  go_upto_region 4 with (fail)
  have HB1 := Lib.hid hb1
  have HB2 := Lib.hid hb2
  have M1 := Lib.hid mv1
  have M2 := Lib.hid mv2
  clear cv1 hu1 hv2 hg1 hg2 hb1 hb2 mv1 mv2
  go_cut [4] from 24 to 244 (fun s wx => ∃ g3 g4 g5 g6 g7 g8 g9 g10 g11 g12 g13, s = .slice (some ⟨g13, 0, none⟩) 30 30 ∧ Blocks wx g1 g2 g3 g4 g5 g6 g7 g8 g9 g10 g11 g12 ∧ (∃ z, wx.heap[g13]? = some (Obj.cells ((T30 g1 g2 g3 g4 g5 g6 g7 g8 g9 g10 g11 g12).flatMap rowC).toArray 50 z)) ∧ Mod [] v2 wx)
  case first =>
    have hb0 := M2.out.get (M1.out.get HB0.out List.not_mem_nil) List.not_mem_nil
    have hl0 := lt_of_block hb0
    have z0 := cell_of_block (i := 0) hb0
    have z1 := cell_of_block (i := 1) hb0
    simp only [List.getElem?_toArray, List.getElem?_cons_succ, List.getElem?_cons_zero] at z0 z1
    clear hb0
    simp only [List.append_eq, List.cons_append, List.nil_append]
    refine abs_start 96 #[false, false, false, false, false, false, false, false, false, false, false, false, false, false, false, false, false, false, false, false, false, false, false, false, false, false, false, false, false, false, false, false, false, false, false, false, false, false, false, false, false, false, false, false, false, false, false, false, false, false, false, false, false, false, false, false, false, false, false, false, false, false, false, false, false, false, false, false, false, false, false, false, false, false, false, false, false, false, false, false, false, false, false, false, false, false, false, false, false, false, false, false, false, false, false, false] rfl (by kernel_rfl) (by kernel_rfl) ?_
    intro W hW
    refine abs_facts (by kernel_rfl) (by kernel_rfl) ?_
    intro hns hpw
    have hl1 : w.heap.size < W.heap.size := Nat.lt_of_lt_of_le hl0 hW.size
    replace z0 := hW.cell z0 List.not_mem_nil
    replace z1 := hW.cell z1 List.not_mem_nil
    refine abs_pure (i := 0) (v := ?qa0) rfl hns hpw (by kernel_rfl) ?ya0 ?ra0
    case ya0 => (intro w1 hw1; have hc0 := hw1.cell hl1 z0; have hc1 := hw1.cell hl1 z1; clear hw1; go_simp; with_reducible rfl)
    try simp only [Act.put, List.setIfInBounds_toArray, List.set_cons_zero, List.set_cons_succ]
    refine abs_pure (i := 1) (v := ?qa1) rfl hns hpw (by kernel_rfl) ?ya1 ?ra1
    case ya1 => (intro w1 hw1; clear hw1; go_simp; with_reducible rfl)
    try simp only [Act.put, List.setIfInBounds_toArray, List.set_cons_zero, List.set_cons_succ]
    refine abs_pure (i := 2) (v := ?qa2) rfl hns hpw (by kernel_rfl) ?ya2 ?ra2
    case ya2 => (intro w1 hw1; clear hw1; go_simp; with_reducible rfl)
    try simp only [Act.put, List.setIfInBounds_toArray, List.set_cons_zero, List.set_cons_succ]
    refine abs_pure (i := 3) (v := ?qa3) rfl hns hpw (by kernel_rfl) ?ya3 ?ra3
    case ya3 => (intro w1 hw1; have hc0 := hw1.cell hl1 z0; have hc1 := hw1.cell hl1 z1; clear hw1; go_simp; with_reducible rfl)
    try simp only [Act.put, List.setIfInBounds_toArray, List.set_cons_zero, List.set_cons_succ]
    refine abs_pure (i := 4) (v := ?qa4) rfl hns hpw (by kernel_rfl) ?ya4 ?ra4
    case ya4 => (intro w1 hw1; clear hw1; go_simp; with_reducible rfl)
    try simp only [Act.put, List.setIfInBounds_toArray, List.set_cons_zero, List.set_cons_succ]
    refine abs_pure (i := 5) (v := ?qa5) rfl hns hpw (by kernel_rfl) ?ya5 ?ra5
    case ya5 => (intro w1 hw1; clear hw1; go_simp; with_reducible rfl)
    try simp only [Act.put, List.setIfInBounds_toArray, List.set_cons_zero, List.set_cons_succ]
    refine abs_pure (i := 6) (v := ?qa6) rfl hns hpw (by kernel_rfl) ?ya6 ?ra6
    case ya6 => (intro w1 hw1; have hc0 := hw1.cell hl1 z0; have hc1 := hw1.cell hl1 z1; clear hw1; go_simp; with_reducible rfl)
    try simp only [Act.put, List.setIfInBounds_toArray, List.set_cons_zero, List.set_cons_succ]
    refine abs_pure (i := 7) (v := ?qa7) rfl hns hpw (by kernel_rfl) ?ya7 ?ra7
    case ya7 => (intro w1 hw1; clear hw1; go_simp; with_reducible rfl)
    try simp only [Act.put, List.setIfInBounds_toArray, List.set_cons_zero, List.set_cons_succ]
    refine abs_pure (i := 8) (v := ?qa8) rfl hns hpw (by kernel_rfl) ?ya8 ?ra8
    case ya8 => (intro w1 hw1; clear hw1; go_simp; with_reducible rfl)
    try simp only [Act.put, List.setIfInBounds_toArray, List.set_cons_zero, List.set_cons_succ]
    refine abs_pure (i := 9) (v := ?qa9) rfl hns hpw (by kernel_rfl) ?ya9 ?ra9
    case ya9 => (intro w1 hw1; have hc0 := hw1.cell hl1 z0; have hc1 := hw1.cell hl1 z1; clear hw1; go_simp; with_reducible rfl)
    try simp only [Act.put, List.setIfInBounds_toArray, List.set_cons_zero, List.set_cons_succ]
    refine abs_pure (i := 10) (v := ?qa10) rfl hns hpw (by kernel_rfl) ?ya10 ?ra10
    case ya10 => (intro w1 hw1; clear hw1; go_simp; with_reducible rfl)
    try simp only [Act.put, List.setIfInBounds_toArray, List.set_cons_zero, List.set_cons_succ]
    refine abs_pure (i := 11) (v := ?qa11) rfl hns hpw (by kernel_rfl) ?ya11 ?ra11
    case ya11 => (intro w1 hw1; clear hw1; go_simp; with_reducible rfl)
    try simp only [Act.put, List.setIfInBounds_toArray, List.set_cons_zero, List.set_cons_succ]
    refine abs_pure (i := 12) (v := ?qa12) rfl hns hpw (by kernel_rfl) ?ya12 ?ra12
    case ya12 => (intro w1 hw1; have hc0 := hw1.cell hl1 z0; have hc1 := hw1.cell hl1 z1; clear hw1; go_simp; with_reducible rfl)
    try simp only [Act.put, List.setIfInBounds_toArray, List.set_cons_zero, List.set_cons_succ]
    refine abs_pure (i := 13) (v := ?qa13) rfl hns hpw (by kernel_rfl) ?ya13 ?ra13
    case ya13 => (intro w1 hw1; clear hw1; go_simp; with_reducible rfl)
    try simp only [Act.put, List.setIfInBounds_toArray, List.set_cons_zero, List.set_cons_succ]
    refine abs_pure (i := 14) (v := ?qa14) rfl hns hpw (by kernel_rfl) ?ya14 ?ra14
    case ya14 => (intro w1 hw1; clear hw1; go_simp; with_reducible rfl)
    try simp only [Act.put, List.setIfInBounds_toArray, List.set_cons_zero, List.set_cons_succ]
    refine abs_pure (i := 15) (v := ?qa15) rfl hns hpw (by kernel_rfl) ?ya15 ?ra15
    case ya15 => (intro w1 hw1; clear hw1; go_simp; with_reducible rfl)
    try simp only [Act.put, List.setIfInBounds_toArray, List.set_cons_zero, List.set_cons_succ]
    refine abs_pure (i := 16) (v := ?qa16) rfl hns hpw (by kernel_rfl) ?ya16 ?ra16
    case ya16 => (intro w1 hw1; clear hw1; go_simp; with_reducible rfl)
    try simp only [Act.put, List.setIfInBounds_toArray, List.set_cons_zero, List.set_cons_succ]
    refine abs_pure (i := 17) (v := ?qa17) rfl hns hpw (by kernel_rfl) ?ya17 ?ra17
    case ya17 => (intro w1 hw1; clear hw1; go_simp; with_reducible rfl)
    try simp only [Act.put, List.setIfInBounds_toArray, List.set_cons_zero, List.set_cons_succ]
    refine abs_pure (i := 18) (v := ?qa18) rfl hns hpw (by kernel_rfl) ?ya18 ?ra18
    case ya18 => (intro w1 hw1; clear hw1; go_simp; with_reducible rfl)
    try simp only [Act.put, List.setIfInBounds_toArray, List.set_cons_zero, List.set_cons_succ]
    refine abs_pure (i := 19) (v := ?qa19) rfl hns hpw (by kernel_rfl) ?ya19 ?ra19
    case ya19 => (intro w1 hw1; clear hw1; go_simp; with_reducible rfl)
    try simp only [Act.put, List.setIfInBounds_toArray, List.set_cons_zero, List.set_cons_succ]
    refine abs_new (i := 20) (len := 1) (C := #[.int .u8 115]) (e := 5) rfl hns hpw (by kernel_rfl) (by intro w1; go_simp) ?_
    intro g3 v3 hg3 hB3 hb3
    try simp only [Act.put, List.setIfInBounds_toArray, List.set_cons_zero, List.set_cons_succ]
    refine abs_mark (i := 21) g3 1 1 rfl hns hpw (by kernel_rfl) Tryd.underlying27 Tryd.underlying5 rfl hB3 ?_
    try simp only [Act.put, List.setIfInBounds_toArray, List.set_cons_zero, List.set_cons_succ]
    refine abs_pure (i := 22) (v := ?qa22) rfl hns hpw (by kernel_rfl) ?ya22 ?ra22
    case ya22 => (intro w1 hw1; clear hw1; go_simp; with_reducible rfl)
    try simp only [Act.put, List.setIfInBounds_toArray, List.set_cons_zero, List.set_cons_succ]
    refine abs_pure (i := 23) (v := ?qa23) rfl hns hpw (by kernel_rfl) ?ya23 ?ra23
    case ya23 => (intro w1 hw1; clear hw1; go_simp; with_reducible rfl)
    try simp only [Act.put, List.setIfInBounds_toArray, List.set_cons_zero, List.set_cons_succ]
    refine abs_pure (i := 24) (v := ?qa24) rfl hns hpw (by kernel_rfl) ?ya24 ?ra24
    case ya24 => (intro w1 hw1; clear hw1; go_simp; with_reducible rfl)
    try simp only [Act.put, List.setIfInBounds_toArray, List.set_cons_zero, List.set_cons_succ]
    refine abs_pure (i := 25) (v := ?qa25) rfl hns hpw (by kernel_rfl) ?ya25 ?ra25
    case ya25 => (intro w1 hw1; clear hw1; go_simp; with_reducible rfl)
    try simp only [Act.put, List.setIfInBounds_toArray, List.set_cons_zero, List.set_cons_succ]
    refine abs_new (i := 26) (len := 1) (C := #[.int .u8 121]) (e := 5) rfl hns hpw (by kernel_rfl) (by intro w1; go_simp) ?_
    intro g4 v4 hg4 hB4 hb4
    try simp only [Act.put, List.setIfInBounds_toArray, List.set_cons_zero, List.set_cons_succ]
    refine abs_mark (i := 27) g4 1 1 rfl hns hpw (by kernel_rfl) Tryd.underlying27 Tryd.underlying5 rfl hB4 ?_
    try simp only [Act.put, List.setIfInBounds_toArray, List.set_cons_zero, List.set_cons_succ]
    refine abs_pure (i := 28) (v := ?qa28) rfl hns hpw (by kernel_rfl) ?ya28 ?ra28
    case ya28 => (intro w1 hw1; clear hw1; go_simp; with_reducible rfl)
    try simp only [Act.put, List.setIfInBounds_toArray, List.set_cons_zero, List.set_cons_succ]
    refine abs_new (i := 29) (len := 1) (C := #[.int .u64 6, .int .u64 1, .int .i64 2, .slice (some ⟨g4, 0, none⟩) 1 1]) (e := 52) rfl hns hpw (by kernel_rfl) (by intro w1; go_simp) ?_
    intro g5 v5 hg5 hB5 hb5
    try simp only [Act.put, List.setIfInBounds_toArray, List.set_cons_zero, List.set_cons_succ]
    refine abs_pure (i := 30) (v := ?qa30) rfl hns hpw (by kernel_rfl) ?ya30 ?ra30
    case ya30 => (intro w1 hw1; clear hw1; go_simp; with_reducible rfl)
    try simp only [Act.put, List.setIfInBounds_toArray, List.set_cons_zero, List.set_cons_succ]
    refine abs_pure (i := 31) (v := ?qa31) rfl hns hpw (by kernel_rfl) ?ya31 ?ra31
    case ya31 => (intro w1 hw1; clear hw1; go_simp; with_reducible rfl)
    try simp only [Act.put, List.setIfInBounds_toArray, List.set_cons_zero, List.set_cons_succ]
    refine abs_pure (i := 32) (v := ?qa32) rfl hns hpw (by kernel_rfl) ?ya32 ?ra32
    case ya32 => (intro w1 hw1; clear hw1; go_simp; with_reducible rfl)
    try simp only [Act.put, List.setIfInBounds_toArray, List.set_cons_zero, List.set_cons_succ]
    refine abs_pure (i := 33) (v := ?qa33) rfl hns hpw (by kernel_rfl) ?ya33 ?ra33
    case ya33 => (intro w1 hw1; clear hw1; go_simp; with_reducible rfl)
    try simp only [Act.put, List.setIfInBounds_toArray, List.set_cons_zero, List.set_cons_succ]
    refine abs_pure (i := 34) (v := ?qa34) rfl hns hpw (by kernel_rfl) ?ya34 ?ra34
    case ya34 => (intro w1 hw1; clear hw1; go_simp; with_reducible rfl)
    try simp only [Act.put, List.setIfInBounds_toArray, List.set_cons_zero, List.set_cons_succ]
    refine abs_pure (i := 35) (v := ?qa35) rfl hns hpw (by kernel_rfl) ?ya35 ?ra35
    case ya35 => (intro w1 hw1; clear hw1; go_simp; with_reducible rfl)
    try simp only [Act.put, List.setIfInBounds_toArray, List.set_cons_zero, List.set_cons_succ]
    refine abs_pure (i := 36) (v := ?qa36) rfl hns hpw (by kernel_rfl) ?ya36 ?ra36
    case ya36 => (intro w1 hw1; clear hw1; go_simp; with_reducible rfl)
    try simp only [Act.put, List.setIfInBounds_toArray, List.set_cons_zero, List.set_cons_succ]
    refine abs_pure (i := 37) (v := ?qa37) rfl hns hpw (by kernel_rfl) ?ya37 ?ra37
    case ya37 => (intro w1 hw1; clear hw1; go_simp; with_reducible rfl)
    try simp only [Act.put, List.setIfInBounds_toArray, List.set_cons_zero, List.set_cons_succ]
    refine abs_pure (i := 38) (v := ?qa38) rfl hns hpw (by kernel_rfl) ?ya38 ?ra38
    case ya38 => (intro w1 hw1; clear hw1; go_simp; with_reducible rfl)
    try simp only [Act.put, List.setIfInBounds_toArray, List.set_cons_zero, List.set_cons_succ]
    refine abs_pure (i := 39) (v := ?qa39) rfl hns hpw (by kernel_rfl) ?ya39 ?ra39
    case ya39 => (intro w1 hw1; clear hw1; go_simp; with_reducible rfl)
    try simp only [Act.put, List.setIfInBounds_toArray, List.set_cons_zero, List.set_cons_succ]
    refine abs_pure (i := 40) (v := ?qa40) rfl hns hpw (by kernel_rfl) ?ya40 ?ra40
    case ya40 => (intro w1 hw1; clear hw1; go_simp; with_reducible rfl)
    try simp only [Act.put, List.setIfInBounds_toArray, List.set_cons_zero, List.set_cons_succ]
    refine abs_pure (i := 41) (v := ?qa41) rfl hns hpw (by kernel_rfl) ?ya41 ?ra41
    case ya41 => (intro w1 hw1; clear hw1; go_simp; with_reducible rfl)
    try simp only [Act.put, List.setIfInBounds_toArray, List.set_cons_zero, List.set_cons_succ]
    refine abs_pure (i := 42) (v := ?qa42) rfl hns hpw (by kernel_rfl) ?ya42 ?ra42
    case ya42 => (intro w1 hw1; clear hw1; go_simp; with_reducible rfl)
    try simp only [Act.put, List.setIfInBounds_toArray, List.set_cons_zero, List.set_cons_succ]
    refine abs_pure (i := 43) (v := ?qa43) rfl hns hpw (by kernel_rfl) ?ya43 ?ra43
    case ya43 => (intro w1 hw1; clear hw1; go_simp; with_reducible rfl)
    try simp only [Act.put, List.setIfInBounds_toArray, List.set_cons_zero, List.set_cons_succ]
    refine abs_pure (i := 44) (v := ?qa44) rfl hns hpw (by kernel_rfl) ?ya44 ?ra44
    case ya44 => (intro w1 hw1; clear hw1; go_simp; with_reducible rfl)
    try simp only [Act.put, List.setIfInBounds_toArray, List.set_cons_zero, List.set_cons_succ]
    refine abs_pure (i := 45) (v := ?qa45) rfl hns hpw (by kernel_rfl) ?ya45 ?ra45
    case ya45 => (intro w1 hw1; clear hw1; go_simp; with_reducible rfl)
    try simp only [Act.put, List.setIfInBounds_toArray, List.set_cons_zero, List.set_cons_succ]
    refine abs_pure (i := 46) (v := ?qa46) rfl hns hpw (by kernel_rfl) ?ya46 ?ra46
    case ya46 => (intro w1 hw1; clear hw1; go_simp; with_reducible rfl)
    try simp only [Act.put, List.setIfInBounds_toArray, List.set_cons_zero, List.set_cons_succ]
    refine abs_pure (i := 47) (v := ?qa47) rfl hns hpw (by kernel_rfl) ?ya47 ?ra47
    case ya47 => (intro w1 hw1; clear hw1; go_simp; with_reducible rfl)
    try simp only [Act.put, List.setIfInBounds_toArray, List.set_cons_zero, List.set_cons_succ]
    refine abs_pure (i := 48) (v := ?qa48) rfl hns hpw (by kernel_rfl) ?ya48 ?ra48
    case ya48 => (intro w1 hw1; clear hw1; go_simp; with_reducible rfl)
    try simp only [Act.put, List.setIfInBounds_toArray, List.set_cons_zero, List.set_cons_succ]
    refine abs_pure (i := 49) (v := ?qa49) rfl hns hpw (by kernel_rfl) ?ya49 ?ra49
    case ya49 => (intro w1 hw1; clear hw1; go_simp; with_reducible rfl)
    try simp only [Act.put, List.setIfInBounds_toArray, List.set_cons_zero, List.set_cons_succ]
    refine abs_pure (i := 50) (v := ?qa50) rfl hns hpw (by kernel_rfl) ?ya50 ?ra50
    case ya50 => (intro w1 hw1; have hc0 := hw1.cell hl1 z0; have hc1 := hw1.cell hl1 z1; clear hw1; go_simp; with_reducible rfl)
    try simp only [Act.put, List.setIfInBounds_toArray, List.set_cons_zero, List.set_cons_succ]
    refine abs_pure (i := 51) (v := ?qa51) rfl hns hpw (by kernel_rfl) ?ya51 ?ra51
    case ya51 => (intro w1 hw1; clear hw1; go_simp; with_reducible rfl)
    try simp only [Act.put, List.setIfInBounds_toArray, List.set_cons_zero, List.set_cons_succ]
    refine abs_pure (i := 52) (v := ?qa52) rfl hns hpw (by kernel_rfl) ?ya52 ?ra52
    case ya52 => (intro w1 hw1; clear hw1; go_simp; with_reducible rfl)
    try simp only [Act.put, List.setIfInBounds_toArray, List.set_cons_zero, List.set_cons_succ]
    refine abs_pure (i := 53) (v := ?qa53) rfl hns hpw (by kernel_rfl) ?ya53 ?ra53
    case ya53 => (intro w1 hw1; clear hw1; go_simp; with_reducible rfl)
    try simp only [Act.put, List.setIfInBounds_toArray, List.set_cons_zero, List.set_cons_succ]
    refine abs_pure (i := 54) (v := ?qa54) rfl hns hpw (by kernel_rfl) ?ya54 ?ra54
    case ya54 => (intro w1 hw1; clear hw1; go_simp; with_reducible rfl)
    try simp only [Act.put, List.setIfInBounds_toArray, List.set_cons_zero, List.set_cons_succ]
    refine abs_pure (i := 55) (v := ?qa55) rfl hns hpw (by kernel_rfl) ?ya55 ?ra55
    case ya55 => (intro w1 hw1; clear hw1; go_simp; with_reducible rfl)
    try simp only [Act.put, List.setIfInBounds_toArray, List.set_cons_zero, List.set_cons_succ]
    refine abs_pure (i := 56) (v := ?qa56) rfl hns hpw (by kernel_rfl) ?ya56 ?ra56
    case ya56 => (intro w1 hw1; clear hw1; go_simp; with_reducible rfl)
    try simp only [Act.put, List.setIfInBounds_toArray, List.set_cons_zero, List.set_cons_succ]
    refine abs_pure (i := 57) (v := ?qa57) rfl hns hpw (by kernel_rfl) ?ya57 ?ra57
    case ya57 => (intro w1 hw1; clear hw1; go_simp; with_reducible rfl)
    try simp only [Act.put, List.setIfInBounds_toArray, List.set_cons_zero, List.set_cons_succ]
    refine abs_pure (i := 58) (v := ?qa58) rfl hns hpw (by kernel_rfl) ?ya58 ?ra58
    case ya58 => (intro w1 hw1; clear hw1; go_simp; with_reducible rfl)
    try simp only [Act.put, List.setIfInBounds_toArray, List.set_cons_zero, List.set_cons_succ]
    refine abs_pure (i := 59) (v := ?qa59) rfl hns hpw (by kernel_rfl) ?ya59 ?ra59
    case ya59 => (intro w1 hw1; clear hw1; go_simp; with_reducible rfl)
    try simp only [Act.put, List.setIfInBounds_toArray, List.set_cons_zero, List.set_cons_succ]
    refine abs_pure (i := 60) (v := ?qa60) rfl hns hpw (by kernel_rfl) ?ya60 ?ra60
    case ya60 => (intro w1 hw1; clear hw1; go_simp; with_reducible rfl)
    try simp only [Act.put, List.setIfInBounds_toArray, List.set_cons_zero, List.set_cons_succ]
    refine abs_pure (i := 61) (v := ?qa61) rfl hns hpw (by kernel_rfl) ?ya61 ?ra61
    case ya61 => (intro w1 hw1; clear hw1; go_simp; with_reducible rfl)
    try simp only [Act.put, List.setIfInBounds_toArray, List.set_cons_zero, List.set_cons_succ]
    refine abs_new (i := 62) (len := 2) (C := #[.slice none 0 0, .slice none 0 0]) (e := 27) rfl hns hpw (by kernel_rfl) (by intro w1; go_simp) ?_
    intro g6 v6 hg6 hB6 hb6
    try simp only [Act.put, List.setIfInBounds_toArray, List.set_cons_zero, List.set_cons_succ]
    refine abs_pure (i := 63) (v := ?qa63) rfl hns hpw (by kernel_rfl) ?ya63 ?ra63
    case ya63 => (intro w1 hw1; clear hw1; go_simp; with_reducible rfl)
    try simp only [Act.put, List.setIfInBounds_toArray, List.set_cons_zero, List.set_cons_succ]
    refine abs_pure (i := 64) (v := ?qa64) rfl hns hpw (by kernel_rfl) ?ya64 ?ra64
    case ya64 => (intro w1 hw1; clear hw1; go_simp; with_reducible rfl)
    try simp only [Act.put, List.setIfInBounds_toArray, List.set_cons_zero, List.set_cons_succ]
    refine abs_pure (i := 65) (v := ?qa65) rfl hns hpw (by kernel_rfl) ?ya65 ?ra65
    case ya65 => (intro w1 hw1; clear hw1; go_simp; with_reducible rfl)
    try simp only [Act.put, List.setIfInBounds_toArray, List.set_cons_zero, List.set_cons_succ]
    refine abs_pure (i := 66) (v := ?qa66) rfl hns hpw (by kernel_rfl) ?ya66 ?ra66
    case ya66 => (intro w1 hw1; clear hw1; go_simp; with_reducible rfl)
    try simp only [Act.put, List.setIfInBounds_toArray, List.set_cons_zero, List.set_cons_succ]
    refine abs_new (i := 67) (len := 1) (C := #[.int .u8 115]) (e := 5) rfl hns hpw (by kernel_rfl) (by intro w1; go_simp) ?_
    intro g7 v7 hg7 hB7 hb7
    try simp only [Act.put, List.setIfInBounds_toArray, List.set_cons_zero, List.set_cons_succ]
    refine abs_mark (i := 68) g7 1 1 rfl hns hpw (by kernel_rfl) Tryd.underlying27 Tryd.underlying5 rfl hB7 ?_
    try simp only [Act.put, List.setIfInBounds_toArray, List.set_cons_zero, List.set_cons_succ]
    refine abs_pure (i := 69) (v := ?qa69) rfl hns hpw (by kernel_rfl) ?ya69 ?ra69
    case ya69 => (intro w1 hw1; clear hw1; go_simp; with_reducible rfl)
    try simp only [Act.put, List.setIfInBounds_toArray, List.set_cons_zero, List.set_cons_succ]
    refine abs_pure (i := 70) (v := ?qa70) rfl hns hpw (by kernel_rfl) ?ya70 ?ra70
    case ya70 => (intro w1 hw1; clear hw1; go_simp; with_reducible rfl)
    try simp only [Act.put, List.setIfInBounds_toArray, List.set_cons_zero, List.set_cons_succ]
    refine abs_pure (i := 71) (v := ?qa71) rfl hns hpw (by kernel_rfl) ?ya71 ?ra71
    case ya71 => (intro w1 hw1; clear hw1; go_simp; with_reducible rfl)
    try simp only [Act.put, List.setIfInBounds_toArray, List.set_cons_zero, List.set_cons_succ]
    refine abs_pure (i := 72) (v := ?qa72) rfl hns hpw (by kernel_rfl) ?ya72 ?ra72
    case ya72 => (intro w1 hw1; clear hw1; go_simp; with_reducible rfl)
    try simp only [Act.put, List.setIfInBounds_toArray, List.set_cons_zero, List.set_cons_succ]
    refine abs_pure (i := 73) (v := ?qa73) rfl hns hpw (by kernel_rfl) ?ya73 ?ra73
    case ya73 => (intro w1 hw1; clear hw1; go_simp; with_reducible rfl)
    try simp only [Act.put, List.setIfInBounds_toArray, List.set_cons_zero, List.set_cons_succ]
    refine abs_new (i := 74) rfl hns hpw (by kernel_rfl) (runs_make _ Tryd.underlying25 ivv iv0 iv1 iv2 (n := 1) rfl rfl rfl (by omega) (by unfold maxLen; omega)) ?_
    intro g8 v8 hg8 hB8 hb8
    try simp only [Act.put, List.setIfInBounds_toArray, List.set_cons_zero, List.set_cons_succ]
    refine abs_pure (i := 75) (v := ?qa75) rfl hns hpw (by kernel_rfl) ?ya75 ?ra75
    case ya75 => (intro w1 hw1; clear hw1; go_simp; with_reducible rfl)
    try simp only [Act.put, List.setIfInBounds_toArray, List.set_cons_zero, List.set_cons_succ]
    refine abs_pure (i := 76) (v := ?qa76) rfl hns hpw (by kernel_rfl) ?ya76 ?ra76
    case ya76 => (intro w1 hw1; clear hw1; go_simp; with_reducible rfl)
    try simp only [Act.put, List.setIfInBounds_toArray, List.set_cons_zero, List.set_cons_succ]
    refine abs_pure (i := 77) (v := ?qa77) rfl hns hpw (by kernel_rfl) ?ya77 ?ra77
    case ya77 => (intro w1 hw1; clear hw1; go_simp; with_reducible rfl)
    try simp only [Act.put, List.setIfInBounds_toArray, List.set_cons_zero, List.set_cons_succ]
    refine abs_new (i := 78) (len := 1) (C := #[.int .u64 6, .int .u64 0, .int .i64 0, .slice none 0 0]) (e := 52) rfl hns hpw (by kernel_rfl) (by intro w1; go_simp) ?_
    intro g9 v9 hg9 hB9 hb9
    try simp only [Act.put, List.setIfInBounds_toArray, List.set_cons_zero, List.set_cons_succ]
    refine abs_pure (i := 79) (v := ?qa79) rfl hns hpw (by kernel_rfl) ?ya79 ?ra79
    case ya79 => (intro w1 hw1; clear hw1; go_simp; with_reducible rfl)
    try simp only [Act.put, List.setIfInBounds_toArray, List.set_cons_zero, List.set_cons_succ]
    refine abs_pure (i := 80) (v := ?qa80) rfl hns hpw (by kernel_rfl) ?ya80 ?ra80
    case ya80 => (intro w1 hw1; clear hw1; go_simp; with_reducible rfl)
    try simp only [Act.put, List.setIfInBounds_toArray, List.set_cons_zero, List.set_cons_succ]
    refine abs_pure (i := 81) (v := ?qa81) rfl hns hpw (by kernel_rfl) ?ya81 ?ra81
    case ya81 => (intro w1 hw1; clear hw1; go_simp; with_reducible rfl)
    try simp only [Act.put, List.setIfInBounds_toArray, List.set_cons_zero, List.set_cons_succ]
    refine abs_pure (i := 82) (v := ?qa82) rfl hns hpw (by kernel_rfl) ?ya82 ?ra82
    case ya82 => (intro w1 hw1; clear hw1; go_simp; with_reducible rfl)
    try simp only [Act.put, List.setIfInBounds_toArray, List.set_cons_zero, List.set_cons_succ]
    refine abs_new (i := 83) (len := 2) (C := #[.int .u64 6, .int .u64 0, .int .i64 0, .slice none 0 0, .int .u64 6, .int .u64 0, .int .i64 0, .slice none 0 0]) (e := 52) rfl hns hpw (by kernel_rfl) (by intro w1; go_simp) ?_
    intro g10 v10 hg10 hB10 hb10
    try simp only [Act.put, List.setIfInBounds_toArray, List.set_cons_zero, List.set_cons_succ]
    refine abs_pure (i := 84) (v := ?qa84) rfl hns hpw (by kernel_rfl) ?ya84 ?ra84
    case ya84 => (intro w1 hw1; clear hw1; go_simp; with_reducible rfl)
    try simp only [Act.put, List.setIfInBounds_toArray, List.set_cons_zero, List.set_cons_succ]
    refine abs_pure (i := 85) (v := ?qa85) rfl hns hpw (by kernel_rfl) ?ya85 ?ra85
    case ya85 => (intro w1 hw1; clear hw1; go_simp; with_reducible rfl)
    try simp only [Act.put, List.setIfInBounds_toArray, List.set_cons_zero, List.set_cons_succ]
    refine abs_pure (i := 86) (v := ?qa86) rfl hns hpw (by kernel_rfl) ?ya86 ?ra86
    case ya86 => (intro w1 hw1; clear hw1; go_simp; with_reducible rfl)
    try simp only [Act.put, List.setIfInBounds_toArray, List.set_cons_zero, List.set_cons_succ]
    refine abs_pure (i := 87) (v := ?qa87) rfl hns hpw (by kernel_rfl) ?ya87 ?ra87
    case ya87 => (intro w1 hw1; clear hw1; go_simp; with_reducible rfl)
    try simp only [Act.put, List.setIfInBounds_toArray, List.set_cons_zero, List.set_cons_succ]
    refine abs_new (i := 88) (len := 1) (C := #[.int .u64 6, .int .u64 0, .int .i64 7, .slice none 0 0]) (e := 52) rfl hns hpw (by kernel_rfl) (by intro w1; go_simp) ?_
    intro g11 v11 hg11 hB11 hb11
    try simp only [Act.put, List.setIfInBounds_toArray, List.set_cons_zero, List.set_cons_succ]
    refine abs_pure (i := 89) (v := ?qa89) rfl hns hpw (by kernel_rfl) ?ya89 ?ra89
    case ya89 => (intro w1 hw1; clear hw1; go_simp; with_reducible rfl)
    try simp only [Act.put, List.setIfInBounds_toArray, List.set_cons_zero, List.set_cons_succ]
    refine abs_pure (i := 90) (v := ?qa90) rfl hns hpw (by kernel_rfl) ?ya90 ?ra90
    case ya90 => (intro w1 hw1; clear hw1; go_simp; with_reducible rfl)
    try simp only [Act.put, List.setIfInBounds_toArray, List.set_cons_zero, List.set_cons_succ]
    refine abs_new (i := 91) rfl hns hpw (by kernel_rfl) (runs_make _ Tryd.underlying26 ibb ib0 ib1 ib2 (n := 17) rfl rfl rfl (by omega) (by unfold maxLen; omega)) ?_
    intro g12 v12 hg12 hB12 hb12
    try simp only [Act.put, List.setIfInBounds_toArray, List.set_cons_zero, List.set_cons_succ]
    refine abs_pure (i := 92) (v := ?qa92) rfl hns hpw (by kernel_rfl) ?ya92 ?ra92
    case ya92 => (intro w1 hw1; clear hw1; go_simp; with_reducible rfl)
    try simp only [Act.put, List.setIfInBounds_toArray, List.set_cons_zero, List.set_cons_succ]
    refine abs_pure (i := 93) (v := ?qa93) rfl hns hpw (by kernel_rfl) ?ya93 ?ra93
    case ya93 => (intro w1 hw1; clear hw1; go_simp; with_reducible rfl)
    try simp only [Act.put, List.setIfInBounds_toArray, List.set_cons_zero, List.set_cons_succ]
    refine abs_new (i := 94) (len := 30) (C := #[.int .u8 1, .int .u64 2, .int .i64 1, .int .u64 0, .int .u64 0, .int .u64 0, .slice none 0 0, .slice none 0 0, .slice none 0 0, .string ⟨#[1, 2, 1]⟩, .int .u8 2, .int .u64 2, .int .i64 1, .int .u64 0, .int .u64 0, .int .u64 0, .slice none 0 0, .slice none 0 0, .slice none 0 0, .string ⟨#[2, 2, 1, 0, 0]⟩, .int .u8 3, .int .u64 2, .int .i64 1, .int .u64 0, .int .u64 0, .int .u64 0, .slice none 0 0, .slice none 0 0, .slice none 0 0, .string ⟨#[3, 2, 1]⟩, .int .u8 4, .int .u64 2, .int .i64 1, .int .u64 1, .int .u64 0, .int .u64 0, .slice none 0 0, .slice none 0 0, .slice none 0 0, .string ⟨#[4, 2, 1, 0, 1, 0]⟩, .int .u8 5, .int .u64 2, .int .i64 1, .int .u64 5, .int .u64 7, .int .u64 0, .slice none 0 0, .slice none 0 0, .slice none 0 0, .string ⟨#[5, 2, 1, 5, 7]⟩, .int .u8 6, .int .u64 0, .int .i64 0, .int .u64 3, .int .u64 0, .int .u64 0, .slice none 0 0, .slice none 0 0, .slice none 0 0, .string ⟨#[6, 3]⟩, .int .u8 7, .int .u64 0, .int .i64 0, .int .u64 3, .int .u64 0, .int .u64 0, .slice none 0 0, .slice (some ⟨g2, 0, none⟩) 1 1, .slice none 0 0, .string ⟨#[7, 3, 1, 1, 120]⟩, .int .u8 8, .int .u64 0, .int .i64 0, .int .u64 3, .int .u64 0, .int .u64 0, .slice none 0 0, .slice none 0 0, .slice (some ⟨g3, 0, none⟩) 1 1, .string ⟨#[8, 3, 1, 115]⟩, .int .u8 2, .int .u64 1, .int .i64 0, .int .u64 0, .int .u64 0, .int .u64 4, .slice (some ⟨g5, 0, none⟩) 1 1, .slice none 0 0, .slice none 0 0, .string ⟨#[2, 1, 0, 4, 1, 6, 1, 2, 1, 121]⟩, .int .u8 7, .int .u64 0, .int .i64 0, .int .u64 18446744073709551615, .int .u64 0, .int .u64 0, .slice none 0 0, .slice (some ⟨g2, 0, none⟩) 1 1, .slice none 0 0, .string ⟨#[7, 255, 255, 255, 255, 255, 255, 255, 255, 255, 1, 1, 1, 120]⟩, .int .u8 5, .int .u64 0, .int .i64 0, .int .u64 5, .int .u64 5, .int .u64 0, .slice none 0 0, .slice none 0 0, .slice none 0 0, .string ⟨#[5, 0, 0, 5, 5]⟩, .int .u8 0, .int .u64 0, .int .i64 0, .int .u64 0, .int .u64 0, .int .u64 0, .slice none 0 0, .slice none 0 0, .slice none 0 0, .string ⟨#[]⟩, .int .u8 9, .int .u64 0, .int .i64 0, .int .u64 0, .int .u64 0, .int .u64 0, .slice none 0 0, .slice none 0 0, .slice none 0 0, .string ⟨#[]⟩, .int .u8 1, .int .u64 0, .int .i64 7, .int .u64 0, .int .u64 0, .int .u64 0, .slice none 0 0, .slice none 0 0, .slice none 0 0, .string ⟨#[]⟩, .int .u8 1, .int .u64 0, .int .i64 (-1), .int .u64 0, .int .u64 0, .int .u64 0, .slice none 0 0, .slice none 0 0, .slice none 0 0, .string ⟨#[]⟩, .int .u8 6, .int .u64 0, .int .i64 0, .int .u64 0, .int .u64 0, .int .u64 0, .slice none 0 0, .slice none 0 0, .slice none 0 0, .string ⟨#[]⟩, .int .u8 6, .int .u64 2, .int .i64 1, .int .u64 1, .int .u64 0, .int .u64 0, .slice none 0 0, .slice none 0 0, .slice none 0 0, .string ⟨#[]⟩, .int .u8 6, .int .u64 0, .int .i64 0, .int .u64 1, .int .u64 1, .int .u64 0, .slice none 0 0, .slice none 0 0, .slice none 0 0, .string ⟨#[]⟩, .int .u8 6, .int .u64 0, .int .i64 0, .int .u64 1, .int .u64 0, .int .u64 1, .slice none 0 0, .slice none 0 0, .slice none 0 0, .string ⟨#[]⟩, .int .u8 5, .int .u64 0, .int .i64 0, .int .u64 5, .int .u64 4, .int .u64 0, .slice none 0 0, .slice none 0 0, .slice none 0 0, .string ⟨#[]⟩, .int .u8 7, .int .u64 0, .int .i64 0, .int .u64 1, .int .u64 0, .int .u64 0, .slice none 0 0, .slice none 0 0, .slice none 0 0, .string ⟨#[]⟩, .int .u8 7, .int .u64 0, .int .i64 0, .int .u64 18446744073709551615, .int .u64 0, .int .u64 0, .slice none 0 0, .slice (some ⟨g6, 0, none⟩) 2 2, .slice none 0 0, .string ⟨#[]⟩, .int .u8 1, .int .u64 0, .int .i64 0, .int .u64 1, .int .u64 0, .int .u64 0, .slice none 0 0, .slice none 0 0, .slice none 0 0, .string ⟨#[]⟩, .int .u8 1, .int .u64 0, .int .i64 0, .int .u64 0, .int .u64 0, .int .u64 0, .slice none 0 0, .slice none 0 0, .slice (some ⟨g7, 0, none⟩) 1 1, .string ⟨#[]⟩, .int .u8 1, .int .u64 0, .int .i64 0, .int .u64 0, .int .u64 0, .int .u64 0, .slice none 0 0, .slice (some ⟨g2, 0, none⟩) 1 1, .slice none 0 0, .string ⟨#[]⟩, .int .u8 1, .int .u64 0, .int .i64 0, .int .u64 0, .int .u64 0, .int .u64 0, .slice (some ⟨g8, 0, none⟩) 1 1, .slice none 0 0, .slice none 0 0, .string ⟨#[]⟩, .int .u8 2, .int .u64 0, .int .i64 0, .int .u64 0, .int .u64 0, .int .u64 6, .slice (some ⟨g9, 0, none⟩) 1 1, .slice none 0 0, .slice none 0 0, .string ⟨#[]⟩, .int .u8 2, .int .u64 0, .int .i64 0, .int .u64 0, .int .u64 0, .int .u64 0, .slice (some ⟨g10, 0, none⟩) 2 2, .slice none 0 0, .slice none 0 0, .string ⟨#[]⟩, .int .u8 2, .int .u64 0, .int .i64 0, .int .u64 0, .int .u64 0, .int .u64 0, .slice (some ⟨g11, 0, none⟩) 1 1, .slice none 0 0, .slice none 0 0, .string ⟨#[]⟩, .int .u8 4, .int .u64 0, .int .i64 0, .int .u64 1, .int .u64 0, .int .u64 0, .slice none 0 0, .slice (some ⟨g12, 0, none⟩) 17 17, .slice none 0 0, .string ⟨#[]⟩]) (e := 50) rfl hns hpw (by kernel_rfl) (runs_slice _ Tryd.underlying53 irr ir0 ir1 (by decide) (by decide) (by kernel_rfl)) ?_
    intro g13 v13 hg13 hB13 hb13
    try simp only [Act.put, List.setIfInBounds_toArray, List.set_cons_zero, List.set_cons_succ]
    refine abs_pure (i := 95) (v := ?qa95) rfl hns hpw (by kernel_rfl) ?ya95 ?ra95
    case ya95 => (intro w1 hw1; clear hw1; go_simp; with_reducible rfl)
    try simp only [Act.put, List.setIfInBounds_toArray, List.set_cons_zero, List.set_cons_succ]
    refine abs_done (by kernel_rfl) (fun wf hf => ?_)
    have k13 : Grow W.heap.size v13 wf := hf
    have k12 : Grow W.heap.size v12 wf := hg13.trans k13
    have k11 : Grow W.heap.size v11 wf := hg12.trans k12
    have k10 : Grow W.heap.size v10 wf := hg11.trans k11
    have k9 : Grow W.heap.size v9 wf := hg10.trans k10
    have k8 : Grow W.heap.size v8 wf := hg9.trans k9
    have k7 : Grow W.heap.size v7 wf := hg8.trans k8
    have k6 : Grow W.heap.size v6 wf := hg7.trans k7
    have k5 : Grow W.heap.size v5 wf := hg6.trans k6
    have k4 : Grow W.heap.size v4 wf := hg5.trans k5
    have k3 : Grow W.heap.size v3 wf := hg4.trans k4
    have kW : Mod [] W wf := (hg3.trans k3).mod
    have mW : Mod [] v2 wf := hW.trans' kW
    obtain ⟨x3, c3⟩ := hb3
    obtain ⟨y3, d3⟩ := k3.kept _ _ _ _ c3
    obtain ⟨x4, c4⟩ := hb4
    obtain ⟨y4, d4⟩ := k4.kept _ _ _ _ c4
    obtain ⟨x5, c5⟩ := hb5
    obtain ⟨y5, d5⟩ := k5.kept _ _ _ _ c5
    obtain ⟨x6, c6⟩ := hb6
    obtain ⟨y6, d6⟩ := k6.kept _ _ _ _ c6
    obtain ⟨x7, c7⟩ := hb7
    obtain ⟨y7, d7⟩ := k7.kept _ _ _ _ c7
    obtain ⟨x8, c8⟩ := hb8
    obtain ⟨y8, d8⟩ := k8.kept _ _ _ _ c8
    obtain ⟨x9, c9⟩ := hb9
    obtain ⟨y9, d9⟩ := k9.kept _ _ _ _ c9
    obtain ⟨x10, c10⟩ := hb10
    obtain ⟨y10, d10⟩ := k10.kept _ _ _ _ c10
    obtain ⟨x11, c11⟩ := hb11
    obtain ⟨y11, d11⟩ := k11.kept _ _ _ _ c11
    obtain ⟨x12, c12⟩ := hb12
    obtain ⟨y12, d12⟩ := k12.kept _ _ _ _ c12
    obtain ⟨x13, c13⟩ := hb13
    obtain ⟨y13, d13⟩ := k13.kept _ _ _ _ c13
    have hrows : (#[.int .u8 1, .int .u64 2, .int .i64 1, .int .u64 0, .int .u64 0, .int .u64 0, .slice none 0 0, .slice none 0 0, .slice none 0 0, .string ⟨#[1, 2, 1]⟩, .int .u8 2, .int .u64 2, .int .i64 1, .int .u64 0, .int .u64 0, .int .u64 0, .slice none 0 0, .slice none 0 0, .slice none 0 0, .string ⟨#[2, 2, 1, 0, 0]⟩, .int .u8 3, .int .u64 2, .int .i64 1, .int .u64 0, .int .u64 0, .int .u64 0, .slice none 0 0, .slice none 0 0, .slice none 0 0, .string ⟨#[3, 2, 1]⟩, .int .u8 4, .int .u64 2, .int .i64 1, .int .u64 1, .int .u64 0, .int .u64 0, .slice none 0 0, .slice none 0 0, .slice none 0 0, .string ⟨#[4, 2, 1, 0, 1, 0]⟩, .int .u8 5, .int .u64 2, .int .i64 1, .int .u64 5, .int .u64 7, .int .u64 0, .slice none 0 0, .slice none 0 0, .slice none 0 0, .string ⟨#[5, 2, 1, 5, 7]⟩, .int .u8 6, .int .u64 0, .int .i64 0, .int .u64 3, .int .u64 0, .int .u64 0, .slice none 0 0, .slice none 0 0, .slice none 0 0, .string ⟨#[6, 3]⟩, .int .u8 7, .int .u64 0, .int .i64 0, .int .u64 3, .int .u64 0, .int .u64 0, .slice none 0 0, .slice (some ⟨g2, 0, none⟩) 1 1, .slice none 0 0, .string ⟨#[7, 3, 1, 1, 120]⟩, .int .u8 8, .int .u64 0, .int .i64 0, .int .u64 3, .int .u64 0, .int .u64 0, .slice none 0 0, .slice none 0 0, .slice (some ⟨g3, 0, none⟩) 1 1, .string ⟨#[8, 3, 1, 115]⟩, .int .u8 2, .int .u64 1, .int .i64 0, .int .u64 0, .int .u64 0, .int .u64 4, .slice (some ⟨g5, 0, none⟩) 1 1, .slice none 0 0, .slice none 0 0, .string ⟨#[2, 1, 0, 4, 1, 6, 1, 2, 1, 121]⟩, .int .u8 7, .int .u64 0, .int .i64 0, .int .u64 18446744073709551615, .int .u64 0, .int .u64 0, .slice none 0 0, .slice (some ⟨g2, 0, none⟩) 1 1, .slice none 0 0, .string ⟨#[7, 255, 255, 255, 255, 255, 255, 255, 255, 255, 1, 1, 1, 120]⟩, .int .u8 5, .int .u64 0, .int .i64 0, .int .u64 5, .int .u64 5, .int .u64 0, .slice none 0 0, .slice none 0 0, .slice none 0 0, .string ⟨#[5, 0, 0, 5, 5]⟩, .int .u8 0, .int .u64 0, .int .i64 0, .int .u64 0, .int .u64 0, .int .u64 0, .slice none 0 0, .slice none 0 0, .slice none 0 0, .string ⟨#[]⟩, .int .u8 9, .int .u64 0, .int .i64 0, .int .u64 0, .int .u64 0, .int .u64 0, .slice none 0 0, .slice none 0 0, .slice none 0 0, .string ⟨#[]⟩, .int .u8 1, .int .u64 0, .int .i64 7, .int .u64 0, .int .u64 0, .int .u64 0, .slice none 0 0, .slice none 0 0, .slice none 0 0, .string ⟨#[]⟩, .int .u8 1, .int .u64 0, .int .i64 (-1), .int .u64 0, .int .u64 0, .int .u64 0, .slice none 0 0, .slice none 0 0, .slice none 0 0, .string ⟨#[]⟩, .int .u8 6, .int .u64 0, .int .i64 0, .int .u64 0, .int .u64 0, .int .u64 0, .slice none 0 0, .slice none 0 0, .slice none 0 0, .string ⟨#[]⟩, .int .u8 6, .int .u64 2, .int .i64 1, .int .u64 1, .int .u64 0, .int .u64 0, .slice none 0 0, .slice none 0 0, .slice none 0 0, .string ⟨#[]⟩, .int .u8 6, .int .u64 0, .int .i64 0, .int .u64 1, .int .u64 1, .int .u64 0, .slice none 0 0, .slice none 0 0, .slice none 0 0, .string ⟨#[]⟩, .int .u8 6, .int .u64 0, .int .i64 0, .int .u64 1, .int .u64 0, .int .u64 1, .slice none 0 0, .slice none 0 0, .slice none 0 0, .string ⟨#[]⟩, .int .u8 5, .int .u64 0, .int .i64 0, .int .u64 5, .int .u64 4, .int .u64 0, .slice none 0 0, .slice none 0 0, .slice none 0 0, .string ⟨#[]⟩, .int .u8 7, .int .u64 0, .int .i64 0, .int .u64 1, .int .u64 0, .int .u64 0, .slice none 0 0, .slice none 0 0, .slice none 0 0, .string ⟨#[]⟩, .int .u8 7, .int .u64 0, .int .i64 0, .int .u64 18446744073709551615, .int .u64 0, .int .u64 0, .slice none 0 0, .slice (some ⟨g6, 0, none⟩) 2 2, .slice none 0 0, .string ⟨#[]⟩, .int .u8 1, .int .u64 0, .int .i64 0, .int .u64 1, .int .u64 0, .int .u64 0, .slice none 0 0, .slice none 0 0, .slice none 0 0, .string ⟨#[]⟩, .int .u8 1, .int .u64 0, .int .i64 0, .int .u64 0, .int .u64 0, .int .u64 0, .slice none 0 0, .slice none 0 0, .slice (some ⟨g7, 0, none⟩) 1 1, .string ⟨#[]⟩, .int .u8 1, .int .u64 0, .int .i64 0, .int .u64 0, .int .u64 0, .int .u64 0, .slice none 0 0, .slice (some ⟨g2, 0, none⟩) 1 1, .slice none 0 0, .string ⟨#[]⟩, .int .u8 1, .int .u64 0, .int .i64 0, .int .u64 0, .int .u64 0, .int .u64 0, .slice (some ⟨g8, 0, none⟩) 1 1, .slice none 0 0, .slice none 0 0, .string ⟨#[]⟩, .int .u8 2, .int .u64 0, .int .i64 0, .int .u64 0, .int .u64 0, .int .u64 6, .slice (some ⟨g9, 0, none⟩) 1 1, .slice none 0 0, .slice none 0 0, .string ⟨#[]⟩, .int .u8 2, .int .u64 0, .int .i64 0, .int .u64 0, .int .u64 0, .int .u64 0, .slice (some ⟨g10, 0, none⟩) 2 2, .slice none 0 0, .slice none 0 0, .string ⟨#[]⟩, .int .u8 2, .int .u64 0, .int .i64 0, .int .u64 0, .int .u64 0, .int .u64 0, .slice (some ⟨g11, 0, none⟩) 1 1, .slice none 0 0, .slice none 0 0, .string ⟨#[]⟩, .int .u8 4, .int .u64 0, .int .i64 0, .int .u64 1, .int .u64 0, .int .u64 0, .slice none 0 0, .slice (some ⟨g12, 0, none⟩) 17 17, .slice none 0 0, .string ⟨#[]⟩] : Array Value) = ((T30 g1 g2 g3 g4 g5 g6 g7 g8 g9 g10 g11 g12).flatMap rowC).toArray := rfl
    rw [hrows] at d13
    have hE : ∃ g3 g4 g5 g6 g7 g8 g9 g10 g11 g12 g13', (.slice (some ⟨g13, 0, none⟩) 30 30 : Value) = .slice (some ⟨g13', 0, none⟩) 30 30 ∧ Blocks wf g1 g2 g3 g4 g5 g6 g7 g8 g9 g10 g11 g12 ∧ (∃ z, wf.heap[g13']? = some (Obj.cells ((T30 g1 g2 g3 g4 g5 g6 g7 g8 g9 g10 g11 g12).flatMap rowC).toArray 50 z)) ∧ Mod [] v2 wf := ⟨g3, g4, g5, g6, g7, g8, g9, g10, g11, g12, g13, rfl, ⟨⟨_, mW.get (M2.out.get HB1.out List.not_mem_nil) List.not_mem_nil⟩, ⟨_, mW.get HB2.out List.not_mem_nil⟩, ⟨_, d3⟩, ⟨_, d4⟩, ⟨_, d5⟩, ⟨_, d6⟩, ⟨_, d7⟩, ⟨_, d8⟩, ⟨_, d9⟩, ⟨_, d10⟩, ⟨_, d11⟩, ⟨_, d12⟩⟩, ⟨_, d13⟩, mW⟩
    go_wp2_with fail
    go_meet
    exact hE
  case rest =>
  obtain ⟨g3, g4, g5, g6, g7, g8, g9, g10, g11, g12, g13, rfl, hblk, ⟨zr, hrow⟩, hm⟩ := hcut
  rename World => wc
  have MC := Lib.hid (((M0.out.trans' M1.out).trans' M2.out).trans' hm)
  have HKN := Lib.hid (t30_known g1 g2 g3 g4 g5 g6 g7 g8 g9 g10 g11 g12)
  have HSZ := Lib.hid (t30_size g1 g2 g3 g4 g5 g6 g7 g8 g9 g10 g11 g12)
  have HSE := Lib.hid (t30_sees hblk)
  have HLN : Hid ((T30 g1 g2 g3 g4 g5 g6 g7 g8 g9 g10 g11 g12).length = 30) := Lib.hid rfl
  obtain ⟨L, hL⟩ : ∃ x, T30 g1 g2 g3 g4 g5 g6 g7 g8 g9 g10 g11 g12 = x := ⟨_, rfl⟩
  rw [hL] at HKN HSZ HSE HLN hrow
  have HROW := Lib.hid hrow
  clear hrow hblk hm hL M0 M1 M2 HB0 HB1 HB2
  go_wp2_with fail
  go_loopw [5] (fun s5 wr => ∃ i : Nat, i ≤ 30 ∧ s5 = .int .i64 (i : Int) ∧ Mod [] wc wr) (fun s5 _ => 30 - (intOf s5).toNat)
  case atStart => exact ⟨0, Nat.zero_le _, rfl, Mod.refl _ _⟩
  case round =>
    obtain ⟨i, hi, rfl, hm⟩ := hrel
    rename World => wr
    have MM := Lib.hid hm
    clear hm
    by_cases hlt : i < 30
    case pos =>
      have hlt2 : (i : Int) < 30 := by omega
      have hil : i < L.length := by rw [HLN.out]; exact hlt
      obtain ⟨k, bn, br, f, l, c, vo, vl, vc, so, bl, sc, po, sl, pc, hv, hcells⟩ := row_cells HROW.out hil
      have HC := Lib.hid hcells
      have hmem := List.getElem_mem hil
      have hk := HKN.out _ hmem
      have HP := Lib.hid (fun w' (m : Mod [] wc w') => mput_any L[i].1 w' ((HSE.out _ hmem).mod0 m) (HSZ.out _ hmem).wf (HSZ.out _ hmem).small (HF.out.mod0 (MC.out.trans' m)) (HT.out.mod0 (MC.out.trans' m)))
      have HCK := Lib.hid (fun w' (m : Mod [] wc w') => check_any L[i].1 w' ((HSE.out _ hmem).mod0 m) (HSZ.out _ hmem).wf (HF.out.mod0 (MC.out.trans' m)))
      rw [hv] at HP HCK
      obtain ⟨d, hd⟩ : ∃ x, L[i].1.d = x := ⟨_, rfl⟩
      obtain ⟨ins, hins⟩ : ∃ x, L[i].2 = x := ⟨_, rfl⟩
      rw [hd] at HP HCK hk
      rw [hins] at HC hk
      have HK := Lib.hid hk
      clear hv hcells hk hd hins hmem
      obtain ⟨a0, a1, a2, a3, a4, a5, a6, a7, a8, a9⟩ := HC.out wr MM.out
      have HX := Lib.hid (HP.out wr MM.out)
      go_wp2_with fail
      refine HX.out.mono ?_
      rintro e w1 ⟨ya, na, yc, rfl, hna, hoa, m1, -⟩
      have M1 := Lib.hid (MM.out.trans' m1)
      obtain ⟨b0, b1, b2, b3, b4, b5, b6, b7, b8, b9⟩ := HC.out w1 M1.out
      have HX := Lib.hid (HCK.out w1 M1.out)
      clear a0 a1 a2 a3 a4 a5 a6 a7 a8 a9 HP MM m1
      cases ins with
      | nil =>
        have hM : ¬ MayM d := HK.out.1 rfl
        rw [if_neg hM] at hna
        obtain rfl : na = 0 := hna.symm
        have e1 : checkE d = 1 := checkE_no hM
        rw [e1] at HX ⊢
        clear hoa hna hM e1 HK
        go_wp2_with fail
        refine HX.out.mono ?_
        rintro e w2 ⟨rfl, m2⟩
        have M2 := Lib.hid (M1.out.trans' m2)
        clear m2 HX
        go_wp2_with fail
        go_roundw
        case rel => exact ⟨i + 1, by omega, by go_num, M2.out⟩
        case measure => simp [intOf]; omega
      | cons x0 xs =>
        obtain ⟨hM, hin0⟩ := HK.out.2 (by simp)
        have hin : insideB d = x0 :: xs := hin0
        have hM : MayM d := hM
        clear hin0
        rw [if_pos hM] at hna hoa
        have e0 : checkE d = 0 := if_pos hM
        have e0' := e0
        rw [e0] at HX ⊢
        have hpos := insideB_pos d
        have hml := msgB_len d
        obtain ⟨gy, rfl, hgy⟩ := Own.ne_none hoa (by omega)
        have hmx := own_max hoa
        subst hna
        have hsd : Sees w1 (some ⟨gy, 4, none⟩) (x0 :: xs) := by
          have h := (hoa.sees).drop 4
          rw [msgB_drop, hin] at h
          exact h
        have hsl : (x0 :: xs).length = (msgB d).length - 4 := by rw [← hin, hml]; omega
        obtain ⟨nl, hnl⟩ : ∃ x, (msgB d).length = x := ⟨_, rfl⟩
        rw [hnl] at hsl hml hmx ⊢
        have D5 : decide ((nl : Int) < 5) = false := decide_eq_false (by omega)
        have HI4 : Hid ((4 : Int) ≤ (nl : Int)) := Lib.hid (by omega)
        have HI5 : Hid ((4 : Int) ≤ (yc : Int)) := Lib.hid (by omega)
        have HC4 : Hid (¬ yc = 4) := Lib.hid (by omega)
        have SD := Lib.hid hsd
        have SL := Lib.hid hsl
        have DQ : Hid (decide (x0 :: xs = x0 :: xs) = true) := Lib.hid (decide_eq_true rfl)
        clear hM hin hoa hgy hsd hsl hnl e0 HK hpos hml hmx
        go_upto_region 12 with (fail)
        refine rest_start [] 27 #[false, false, false, false, false, false, false, false, false, false, false, false, false, false, false, false, false, false, false, false, false, false, false, false, false, false, false] rfl (by kernel_rfl) (by kernel_rfl) ?_
        intro w3 m3
        have M3 := Lib.hid (M1.out.trans' m3)
        have LC : Hid (∀ w', Mod [] w3 w' → _) := Lib.hid (fun w' h => HC.out w' (M3.out.trans' h))
        have SX := Lib.hid (SD.out.mod0 m3)
        clear m3 b0 b1 b2 b3 b4 b5 b6 b7 b8 b9 HX
        refine rest_got (i := 0) (v := ?v1) rfl (by kernel_rfl) (by kernel_rfl) (by kernel_rfl) (fun _ _ _ h => h) (by rfl) ?y1 ?r1
        case y1 => (intro w9q hSwq; clear hSwq; go_simp; with_reducible rfl)
        try simp only [Act.put, List.setIfInBounds_toArray, List.set_cons_zero, List.set_cons_succ]
        refine rest_got (i := 1) (v := ?v2) rfl (by kernel_rfl) (by kernel_rfl) (by kernel_rfl) (fun _ _ _ h => h) (by rfl) ?y2 ?r2
        case y2 => (intro w9q hSwq; clear hSwq; go_simp; with_reducible rfl)
        try simp only [Act.put, List.setIfInBounds_toArray, List.set_cons_zero, List.set_cons_succ]
        refine rest_got (i := 2) (v := ?v3) rfl (by kernel_rfl) (by kernel_rfl) (by kernel_rfl) (fun _ _ _ h => h) (by rfl) ?y3 ?r3
        case y3 => (intro w9q hSwq; clear hSwq; go_simp; with_reducible rfl)
        try simp only [Act.put, List.setIfInBounds_toArray, List.set_cons_zero, List.set_cons_succ]
        refine rest_got (i := 3) (v := ?v4) rfl (by kernel_rfl) (by kernel_rfl) (by kernel_rfl) (fun _ _ _ h => h) (by rfl) ?y4 ?r4
        case y4 => (intro w9q hSwq; clear hSwq; go_simp; with_reducible rfl)
        try simp only [Act.put, List.setIfInBounds_toArray, List.set_cons_zero, List.set_cons_succ]
        refine rest_got (i := 4) (v := ?v5) rfl (by kernel_rfl) (by kernel_rfl) (by kernel_rfl) (fun _ _ _ h => h) (by rfl) ?y5 ?r5
        case y5 => (intro w9q hSwq; clear hSwq; go_simp; with_reducible rfl)
        try simp only [Act.put, List.setIfInBounds_toArray, List.set_cons_zero, List.set_cons_succ]
        refine rest_got (i := 5) (v := ?v6) rfl (by kernel_rfl) (by kernel_rfl) (by kernel_rfl) (fun _ _ _ h => h) (by rfl) ?y6 ?r6
        case y6 => (intro w9q hSwq; clear hSwq; go_simp; with_reducible rfl)
        try simp only [Act.put, List.setIfInBounds_toArray, List.set_cons_zero, List.set_cons_succ]
        refine rest_got (i := 6) (v := ?v7) rfl (by kernel_rfl) (by kernel_rfl) (by kernel_rfl) (fun _ _ _ h => h) (by rfl) ?y7 ?r7
        case y7 => (intro w9q hSwq; clear hSwq; go_simp; with_reducible rfl)
        try simp only [Act.put, List.setIfInBounds_toArray, List.set_cons_zero, List.set_cons_succ]
        refine rest_got (i := 7) (v := ?v8) rfl (by kernel_rfl) (by kernel_rfl) (by kernel_rfl) (fun _ _ _ h => h) (by rfl) ?y8 ?r8
        case y8 => (intro w9q hSwq; clear hSwq; go_simp; with_reducible rfl)
        try simp only [Act.put, List.setIfInBounds_toArray, List.set_cons_zero, List.set_cons_succ]
        refine rest_got (i := 8) (v := ?v9) rfl (by kernel_rfl) (by kernel_rfl) (by kernel_rfl) (fun _ _ _ h => h) (by rfl) ?y9 ?r9
        case y9 => (intro w9q hSwq; clear hSwq; go_simp; with_reducible rfl)
        try simp only [Act.put, List.setIfInBounds_toArray, List.set_cons_zero, List.set_cons_succ]
        refine rest_got (i := 9) (v := ?v10) rfl (by kernel_rfl) (by kernel_rfl) (by kernel_rfl) (fun _ _ _ h => h) (by rfl) ?y10 ?r10
        case y10 => ((intro w9' hm9'; clear hm9'; go_simp; (first | rw [if_pos HI4.out, if_neg HC4.out] | rw [if_pos HI5.out])))
        try simp only [Act.put, List.setIfInBounds_toArray, List.set_cons_zero, List.set_cons_succ]
        refine rest_got (i := 10) (v := ?v11) rfl (by kernel_rfl) (by kernel_rfl) (by kernel_rfl) (fun _ _ _ h => h) (by rfl) ?y11 ?r11
        case y11 => ((intro w9' hm9'; refine Eq.trans (reads_str _ _ _ _ 5 Tryd.underlying27 Tryd.underlying5 Tryd.underlying9 _ _ _ _ rfl SL.out SX.out (by first | (intro k _ hk; exact (List.not_mem_nil hk)) | simp) w9' hm9') ?_; with_reducible rfl))
        try simp only [Act.put, List.setIfInBounds_toArray, List.set_cons_zero, List.set_cons_succ]
        refine rest_got (i := 11) (v := ?v12) rfl (by kernel_rfl) (by kernel_rfl) (by kernel_rfl) (fun _ _ _ h => h) (by rfl) ?y12 ?r12
        case y12 => (intro w9q hSwq; clear hSwq; go_simp; with_reducible rfl)
        try simp only [Act.put, List.setIfInBounds_toArray, List.set_cons_zero, List.set_cons_succ]
        refine rest_got (i := 12) (v := ?v13) rfl (by kernel_rfl) (by kernel_rfl) (by kernel_rfl) (fun _ _ _ h => h) (by rfl) ?y13 ?r13
        case y13 => (intro w9q hSwq; clear hSwq; go_simp; with_reducible rfl)
        try simp only [Act.put, List.setIfInBounds_toArray, List.set_cons_zero, List.set_cons_succ]
        refine rest_got (i := 13) (v := ?v14) rfl (by kernel_rfl) (by kernel_rfl) (by kernel_rfl) (fun _ _ _ h => h) (by rfl) ?y14 ?r14
        case y14 => (intro w9q hSwq; clear hSwq; go_simp; with_reducible rfl)
        try simp only [Act.put, List.setIfInBounds_toArray, List.set_cons_zero, List.set_cons_succ]
        refine rest_got (i := 14) (v := ?v15) rfl (by kernel_rfl) (by kernel_rfl) (by kernel_rfl) (fun _ _ _ h => h) (by rfl) ?y15 ?r15
        case y15 => (intro w9q hSwq; clear hSwq; go_simp; with_reducible rfl)
        try simp only [Act.put, List.setIfInBounds_toArray, List.set_cons_zero, List.set_cons_succ]
        refine rest_got (i := 15) (v := ?v16) rfl (by kernel_rfl) (by kernel_rfl) (by kernel_rfl) (fun _ _ _ h => h) (by rfl) ?y16 ?r16
        case y16 => ((intro w9' hm9'; obtain ⟨hc0', hc1', hc2', hc3', hc4', hc5', hc6', hc7', hc8', hc9'⟩ := LC.out w9' hm9'; clear hm9'; go_simp; with_reducible rfl))
        try simp only [Act.put, List.setIfInBounds_toArray, List.set_cons_zero, List.set_cons_succ]
        refine rest_got (i := 16) (v := ?v17) rfl (by kernel_rfl) (by kernel_rfl) (by kernel_rfl) (fun _ _ _ h => h) (by rfl) ?y17 ?r17
        case y17 => (intro w9q hSwq; clear hSwq; go_simp; with_reducible rfl)
        try simp only [Act.put, List.setIfInBounds_toArray, List.set_cons_zero, List.set_cons_succ]
        refine rest_got (i := 17) (v := ?v18) rfl (by kernel_rfl) (by kernel_rfl) (by kernel_rfl) (fun _ _ _ h => h) (by rfl) ?y18 ?r18
        case y18 => (intro w9q hSwq; clear hSwq; go_simp; with_reducible rfl)
        try simp only [Act.put, List.setIfInBounds_toArray, List.set_cons_zero, List.set_cons_succ]
        refine rest_got (i := 18) (v := ?v19) rfl (by kernel_rfl) (by kernel_rfl) (by kernel_rfl) (fun _ _ _ h => h) (by rfl) ?y19 ?r19
        case y19 => (intro w9q hSwq; clear hSwq; go_simp; with_reducible rfl)
        try simp only [Act.put, List.setIfInBounds_toArray, List.set_cons_zero, List.set_cons_succ]
        refine rest_got (i := 19) (v := ?v20) rfl (by kernel_rfl) (by kernel_rfl) (by kernel_rfl) (fun _ _ _ h => h) (by rfl) ?y20 ?r20
        case y20 => (intro w9q hSwq; clear hSwq; go_simp; with_reducible rfl)
        try simp only [Act.put, List.setIfInBounds_toArray, List.set_cons_zero, List.set_cons_succ]
        refine rest_got (i := 20) (v := ?v21) rfl (by kernel_rfl) (by kernel_rfl) (by kernel_rfl) (fun _ _ _ h => h) (by rfl) ?y21 ?r21
        case y21 => (intro w9q hSwq; clear hSwq; go_simp; with_reducible rfl)
        try simp only [Act.put, List.setIfInBounds_toArray, List.set_cons_zero, List.set_cons_succ]
        refine rest_got (i := 21) (v := ?v22) rfl (by kernel_rfl) (by kernel_rfl) (by kernel_rfl) (fun _ _ _ h => h) (by rfl) ?y22 ?r22
        case y22 => (intro w9q hSwq; clear hSwq; go_simp; with_reducible rfl)
        try simp only [Act.put, List.setIfInBounds_toArray, List.set_cons_zero, List.set_cons_succ]
        refine rest_got (i := 22) (v := ?v23) rfl (by kernel_rfl) (by kernel_rfl) (by kernel_rfl) (fun _ _ _ h => h) (by rfl) ?y23 ?r23
        case y23 => (intro w9q hSwq; clear hSwq; go_simp; with_reducible rfl)
        try simp only [Act.put, List.setIfInBounds_toArray, List.set_cons_zero, List.set_cons_succ]
        refine rest_got (i := 23) (v := ?v24) rfl (by kernel_rfl) (by kernel_rfl) (by kernel_rfl) (fun _ _ _ h => h) (by rfl) ?y24 ?r24
        case y24 => ((intro w9' hm9'; obtain ⟨hc0', hc1', hc2', hc3', hc4', hc5', hc6', hc7', hc8', hc9'⟩ := LC.out w9' hm9'; clear hm9'; go_simp; with_reducible rfl))
        try simp only [Act.put, List.setIfInBounds_toArray, List.set_cons_zero, List.set_cons_succ]
        refine rest_one (i := 24) (by kernel_rfl) rfl (by rfl) ?_
        have HX := Lib.hid (HCK.out w3 M3.out)
        rw [e0'] at HX
        go_wp2_with fail
        refine HX.out.mono ?_
        rintro e w4 ⟨rfl, m4⟩
        go_wp2_with fail
        refine back_to (K1 := []) m4 (by simp) ?_
        have M4 := Lib.hid (M3.out.trans' m4)
        clear m4 HX
        refine rest_got (i := 25) (v := ?v25) rfl (by kernel_rfl) (by kernel_rfl) (by kernel_rfl) (fun _ _ _ h => h) (by rfl) ?y25 ?r25
        case y25 => (intro w9q hSwq; clear hSwq; go_simp; with_reducible rfl)
        try simp only [Act.put, List.setIfInBounds_toArray, List.set_cons_zero, List.set_cons_succ]
        refine rest_got (i := 26) (v := ?v26) rfl (by kernel_rfl) (by kernel_rfl) (by kernel_rfl) (fun _ _ _ h => h) (by rfl) ?y26 ?r26
        case y26 => (intro w9q hSwq; clear hSwq; go_simp; with_reducible rfl)
        try simp only [Act.put, List.setIfInBounds_toArray, List.set_cons_zero, List.set_cons_succ]
        refine rest_done (by kernel_rfl) ?_ _
        go_wp2_with fail
        go_roundw
        case rel => exact ⟨i + 1, by omega, by go_num, M4.out⟩
        case measure => simp [intOf]; omega
    have hie : i = 30 := by omega
    subst hie
    rw [show ((30 : Nat) : Int) = 30 from rfl]
    have MD := Lib.hid (MC.out.trans' MM.out)
    clear hlt hi HROW HSE HSZ HKN HLN MM MC
    go_wp2_with fail
    go_loopw [8, 9] (fun s8 s9 wx => ∃ (k : Nat) (ao : Option Addr) (c : Nat), k ≤ 257 ∧ s9 = .int .i64 (k : Int) ∧ s8 = .slice ao k c ∧ OwnV wx ao c (Vn k) ∧ Mod [] wr wx ∧ (∀ b, b ∈ blk ao → wr.heap.size ≤ b)) (fun _ s9 _ => 257 - (intOf s9).toNat)
    case atStart => exact ⟨0, none, 0, Nat.zero_le _, rfl, rfl, Own.nil0 _ _ _, Mod.refl _ _, by simp [blk]⟩
    case round =>
      obtain ⟨k, ao, c, hk, rfl, rfl, hov, hm, hbn⟩ := hrel
      rename World => wx
      have OV := Lib.hid hov
      have MM := Lib.hid hm
      have BN := Lib.hid hbn
      clear hov hm hbn
      by_cases hlt : k < 257
      case pos =>
        have hlt2 : (k : Int) < 257 := by omega
        have ew1 : IntKind.u64.wrap (k : Int) = (k : Int) := IntWalk.u64_in _ (by omega)
        obtain ⟨k1, hk1⟩ : ∃ x, k + 1 = x := ⟨_, rfl⟩
        have ew2 : IntKind.u64.wrap ((k : Int) + 1) = (k1 : Int) := by rw [IntWalk.u64_in _ (by omega)]; omega
        have HK1 := Lib.hid hk1
        clear hk1
        have mv := Mod.alloc [] wx (.cells #[.int .u64 (k1 : Int), .int .u64 0, .int .i64 0, .slice none 0 0] 52)
        have sh := showsV (x := ((⟨k1, 0, 0⟩, [], none, 0) : Vm)) (t := 52) (z := (0, 0)) (w := wx.alloc (.cells #[.int .u64 (k1 : Int), .int .u64 0, .int .i64 0, .slice none 0 0] 52)) (g := wx.heap.size) (heap_alloc_new wx _)
        obtain ⟨wy, hwy⟩ : ∃ x, wx.alloc (.cells #[.int .u64 (k1 : Int), .int .u64 0, .int .i64 0, .slice none 0 0] 52) = x := ⟨_, rfl⟩
        rw [hwy] at mv sh
        have SH := Lib.hid sh
        have MV := Lib.hid mv
        have OV2 := Lib.hid (Own.mod0 OV.out mv)
        clear mv sh
        go_wp2_with (first | (at_builtin; refine wpl_appV (dst := some 193) _ _ ao k c (Vn k) rfl (Vn_length k) OV2.out _ ((⟨k1, 0, 0⟩, [], none, 0) : Vm) rfl SH.out (by omega) ?_) | fail)
        intro a2 c2 w2 o2 m2 n2
        rw [← HK1.out, ← Vn_succ] at o2
        have O2 := Lib.hid o2
        have M2 := Lib.hid ((MM.out.trans' MV.out).trans m2 (fun i hi hl => by have := BN.out i hi; omega))
        have B2 : Hid (∀ b, b ∈ blk a2 → wr.heap.size ≤ b) := Lib.hid (fun b hb => by
          rcases n2.blk b hb with h | h
          · exact BN.out b h
          · have := (MM.out.trans' MV.out).size
            omega)
        clear o2 m2 n2 hwy
        go_wp2_with fail
        go_roundw
        case rel => exact ⟨k + 1, a2, c2, by omega, by go_num, rfl, O2.out, M2.out, B2.out⟩
        case measure => simp [intOf]; omega
      have hke : k = 257 := by omega
      subst hke
      obtain ⟨g, rfl, hg⟩ := Own.ne_none OV.out (by rw [Vn_length]; omega)
      have hc := own_max OV.out
      rw [Vn_length] at hc
      have ME := Lib.hid (MD.out.trans' MM.out)
      have HPV := Lib.hid (fun (n : Nat) (hn : n ≤ 257) w' (m : Mod [] wx w') => mput_any (mV (some ⟨g, 0, none⟩) c n) w' ((mV_sees OV.out hn).mod0 m) (mV_wf (by omega)) (mV_small (by omega)) (HF.out.mod0 (ME.out.trans' m)) (HT.out.mod0 (ME.out.trans' m)))
      have HX := Lib.hid (HPV.out 256 (by omega) wx (Mod.refl _ _))
      rw [mV_val] at HX
      have hc2 : (256 : Int) ≤ (c : Int) := by omega
      clear MM BN hlt hk hg
      go_wp2_with fail
      refine HX.out.mono ?_
      rintro e w2 ⟨ya, na, yc, rfl, -, -, m2, -⟩
      have e0 : checkE (mV (some ⟨g, 0, none⟩) c 256).d = 0 := if_pos (mV_256 _ _)
      rw [e0]
      have M2 := Lib.hid m2
      have HX := Lib.hid (HPV.out 257 (by omega) w2 m2)
      rw [mV_val] at HX
      clear m2 e0
      go_wp2_with fail
      refine HX.out.mono ?_
      rintro e w3 ⟨yb, nb, yd, rfl, -, -, m3, -⟩
      have e0 : checkE (mV (some ⟨g, 0, none⟩) c 257).d = 1 := checkE_no (mV_257 _ _)
      rw [e0]
      have M3 := Lib.hid (ME.out.trans' (M2.out.trans' m3))
      clear m3 e0 HX HPV M2 ME OV
      go_wp2_with (first | (at_make; refine wpl_mkB (dst := some 208) _ _ 16 16 rfl rfl rfl (by omega) ?_) | fail)
      intro gb w4 hb4 m4
      have M4 := Lib.hid (M3.out.trans' m4)
      have HX := Lib.hid (mput_any (mB (some ⟨gb, 0, none⟩) 16) w4 (mB_sees hb4) (mB_wf (by omega)) (mB_small (by omega)) (HF.out.mod0 M4.out) (HT.out.mod0 M4.out))
      rw [mB_val] at HX
      clear m4 M3 hb4
      go_wp2_with fail
      refine HX.out.mono ?_
      rintro e w5 ⟨yb2, nb2, yd2, rfl, -, -, m5, -⟩
      have e0 : checkE (mB (some ⟨gb, 0, none⟩) 16).d = 0 := if_pos (mB_16 _)
      rw [e0]
      have M5 := Lib.hid (M4.out.trans' m5)
      clear m5 e0 HX M4
      obtain ⟨w6, hx1, hb1, m1⟩ : ∃ x, w5.alloc (.cells #[.int .u8 1, .int .u8 2, .int .u8 3, .int .u8 4] 5) = x ∧ x.heap[w5.heap.size]? = some (.cells #[.int .u8 1, .int .u8 2, .int .u8 3, .int .u8 4] 5 (0, 0)) ∧ Mod [] w5 x := ⟨_, rfl, heap_alloc_new w5 _, Mod.alloc _ _ _⟩
      have M6 := Lib.hid (M5.out.trans' m1)
      have hs1 : Sees w6 (some ⟨w5.heap.size, 0, none⟩) [1, 2, 3, 4] := Own.sees (l := [1, 2, 3, 4]) (Own.new (sz := 1) (n := 4) hb1 (.inl rfl) rfl (by unfold maxLen; omega))
      have HX := Lib.hid (mtake_any (some ⟨w5.heap.size, 0, none⟩) 4 4 [1, 2, 3, 4] w6 rfl (by omega) (by omega) hs1 (HF.out.mod0 M6.out) (HT.out.mod0 M6.out))
      clear hb1 m1 hs1
      go_wp2_with fail
      refine HX.out.mono ?_
      rintro e w7 ⟨n1, rfl, -, -, -, m2⟩
      have M6' := Lib.hid (M6.out.trans' m2)
      rw [take4]
      obtain ⟨k1, bn1, br1, f1, l1, c1, vo1, vl1, vc1, so1, bl1, sc1, po1, sl1, pc1, hv1, hr1⟩ := mshape n1
      rw [hv1]
      clear m2 HX hx1 M5 M6 hv1 hr1
      obtain ⟨wz, hwz, hbz, hmz⟩ : ∃ x, w7.alloc (.cells #[.int .u8 0, .int .u64 0, .int .i64 0, .int .u64 0, .int .u64 0, .int .u64 0, .slice none 0 0, .slice none 0 0, .slice none 0 0] 29) = x ∧ x.heap[w7.heap.size]? = some (.cells #[.int .u8 0, .int .u64 0, .int .i64 0, .int .u64 0, .int .u64 0, .int .u64 0, .slice none 0 0, .slice none 0 0, .slice none 0 0] 29 (0, 0)) ∧ Mod [] w7 x := ⟨_, rfl, heap_alloc_new w7 _, Mod.alloc _ _ _⟩
      have z0 := cell_of_block (i := 0) hbz
      have y0 := free_of_block (i := 0) hbz
      have z1 := cell_of_block (i := 1) hbz
      have y1 := free_of_block (i := 1) hbz
      have z2 := cell_of_block (i := 2) hbz
      have y2 := free_of_block (i := 2) hbz
      have z3 := cell_of_block (i := 3) hbz
      have y3 := free_of_block (i := 3) hbz
      have z4 := cell_of_block (i := 4) hbz
      have y4 := free_of_block (i := 4) hbz
      have z5 := cell_of_block (i := 5) hbz
      have y5 := free_of_block (i := 5) hbz
      have z6 := cell_of_block (i := 6) hbz
      have y6 := free_of_block (i := 6) hbz
      have z7 := cell_of_block (i := 7) hbz
      have y7 := free_of_block (i := 7) hbz
      have z8 := cell_of_block (i := 8) hbz
      have y8 := free_of_block (i := 8) hbz
      simp only [List.getElem?_toArray, List.getElem?_cons_succ, List.getElem?_cons_zero] at z0 z1 z2 z3 z4 z5 z6 z7 z8
      go_upto_region 23 with (fail)
      obtain ⟨w8, hw8⟩ : ∃ x, (((((((((wz.setCell ⟨w7.heap.size, 0, none⟩ (.int .u8 k1)).setCell ⟨w7.heap.size, 1, none⟩ (.int .u64 bn1)).setCell ⟨w7.heap.size, 2, none⟩ (.int .i64 br1)).setCell ⟨w7.heap.size, 3, none⟩ (.int .u64 f1)).setCell ⟨w7.heap.size, 4, none⟩ (.int .u64 l1)).setCell ⟨w7.heap.size, 5, none⟩ (.int .u64 c1)).setCell ⟨w7.heap.size, 6, none⟩ (.slice vo1 vl1 vc1)).setCell ⟨w7.heap.size, 7, none⟩ (.slice so1 bl1 sc1)).setCell ⟨w7.heap.size, 8, none⟩ (.slice po1 sl1 pc1)) = x := ⟨_, rfl⟩
      rw [hw8]
      have hbw8 : w8.heap[w7.heap.size]? = some (.cells #[.int .u8 k1, .int .u64 bn1, .int .i64 br1, .int .u64 f1, .int .u64 l1, .int .u64 c1, .slice vo1 vl1 vc1, .slice so1 bl1 sc1, .slice po1 sl1 pc1] 29 (0, 0)) := by
        rw [← hw8]
        have h := (heap_setCell_same (i := 8) (heap_setCell_same (i := 7) (heap_setCell_same (i := 6) (heap_setCell_same (i := 5) (heap_setCell_same (i := 4) (heap_setCell_same (i := 3) (heap_setCell_same (i := 2) (heap_setCell_same (i := 1) (heap_setCell_same (i := 0) hbz (.int .u8 k1)) (.int .u64 bn1)) (.int .i64 br1)) (.int .u64 f1)) (.int .u64 l1)) (.int .u64 c1)) (.slice vo1 vl1 vc1)) (.slice so1 bl1 sc1)) (.slice po1 sl1 pc1))
        simp only [List.setIfInBounds_toArray, List.set_cons_zero, List.set_cons_succ] at h
        exact h
      have mw8 : Mod [] w7 w8 := by
        rw [← hw8]
        exact hmz.trans (T := [w7.heap.size]) (((((((((Mod.setCell _ _ _ (by simp)).trans' (Mod.setCell _ _ _ (by simp))).trans' (Mod.setCell _ _ _ (by simp))).trans' (Mod.setCell _ _ _ (by simp))).trans' (Mod.setCell _ _ _ (by simp))).trans' (Mod.setCell _ _ _ (by simp))).trans' (Mod.setCell _ _ _ (by simp))).trans' (Mod.setCell _ _ _ (by simp))).trans' (Mod.setCell _ _ _ (by simp))) (by simp)
      clear z0 z1 z2 z3 z4 z5 z6 z7 z8 y0 y1 y2 y3 y4 y5 y6 y7 y8 hbz hmz hwz hw8
      have M8 := Lib.hid (M6'.out.trans' mw8)
      clear mw8 hbw8 M6'
      obtain ⟨w9, hx1, hb1, m1⟩ : ∃ x, w8.alloc (.cells #[.int .u8 1, .int .u8 2, .int .u8 3, .int .u8 4, .int .u8 5] 5) = x ∧ x.heap[w8.heap.size]? = some (.cells #[.int .u8 1, .int .u8 2, .int .u8 3, .int .u8 4, .int .u8 5] 5 (0, 0)) ∧ Mod [] w8 x := ⟨_, rfl, heap_alloc_new w8 _, Mod.alloc _ _ _⟩
      have M9 := Lib.hid (M8.out.trans' m1)
      have hs1 : Sees w9 (some ⟨w8.heap.size, 0, none⟩) [1, 2, 3, 4, 5] := Own.sees (l := [1, 2, 3, 4, 5]) (Own.new (sz := 1) (n := 5) hb1 (.inl rfl) rfl (by unfold maxLen; omega))
      have HX := Lib.hid (mtake_any (some ⟨w8.heap.size, 0, none⟩) 5 5 [1, 2, 3, 4, 5] w9 rfl (by omega) (by omega) hs1 (HF.out.mod0 M9.out) (HT.out.mod0 M9.out))
      clear hb1 m1 hs1
      go_wp2_with fail
      refine HX.out.mono ?_
      rintro e wa ⟨n2, rfl, -, -, -, m2⟩
      have M9' := Lib.hid (M9.out.trans' m2)
      rw [take5]
      obtain ⟨k2, bn2, br2, f2, l2, c2, vo2, vl2, vc2, so2, bl2, sc2, po2, sl2, pc2, hv2, hr2⟩ := mshape n2
      rw [hv2]
      clear m2 HX hx1 M8 M9 hv2 hr2
      obtain ⟨wz, hwz, hbz, hmz⟩ : ∃ x, wa.alloc (.cells #[.int .u8 0, .int .u64 0, .int .i64 0, .int .u64 0, .int .u64 0, .int .u64 0, .slice none 0 0, .slice none 0 0, .slice none 0 0] 29) = x ∧ x.heap[wa.heap.size]? = some (.cells #[.int .u8 0, .int .u64 0, .int .i64 0, .int .u64 0, .int .u64 0, .int .u64 0, .slice none 0 0, .slice none 0 0, .slice none 0 0] 29 (0, 0)) ∧ Mod [] wa x := ⟨_, rfl, heap_alloc_new wa _, Mod.alloc _ _ _⟩
      have z0 := cell_of_block (i := 0) hbz
      have y0 := free_of_block (i := 0) hbz
      have z1 := cell_of_block (i := 1) hbz
      have y1 := free_of_block (i := 1) hbz
      have z2 := cell_of_block (i := 2) hbz
      have y2 := free_of_block (i := 2) hbz
      have z3 := cell_of_block (i := 3) hbz
      have y3 := free_of_block (i := 3) hbz
      have z4 := cell_of_block (i := 4) hbz
      have y4 := free_of_block (i := 4) hbz
      have z5 := cell_of_block (i := 5) hbz
      have y5 := free_of_block (i := 5) hbz
      have z6 := cell_of_block (i := 6) hbz
      have y6 := free_of_block (i := 6) hbz
      have z7 := cell_of_block (i := 7) hbz
      have y7 := free_of_block (i := 7) hbz
      have z8 := cell_of_block (i := 8) hbz
      have y8 := free_of_block (i := 8) hbz
      simp only [List.getElem?_toArray, List.getElem?_cons_succ, List.getElem?_cons_zero] at z0 z1 z2 z3 z4 z5 z6 z7 z8
      go_upto_region 24 with (fail)
      obtain ⟨wb, hwb⟩ : ∃ x, (((((((((wz.setCell ⟨wa.heap.size, 0, none⟩ (.int .u8 k2)).setCell ⟨wa.heap.size, 1, none⟩ (.int .u64 bn2)).setCell ⟨wa.heap.size, 2, none⟩ (.int .i64 br2)).setCell ⟨wa.heap.size, 3, none⟩ (.int .u64 f2)).setCell ⟨wa.heap.size, 4, none⟩ (.int .u64 l2)).setCell ⟨wa.heap.size, 5, none⟩ (.int .u64 c2)).setCell ⟨wa.heap.size, 6, none⟩ (.slice vo2 vl2 vc2)).setCell ⟨wa.heap.size, 7, none⟩ (.slice so2 bl2 sc2)).setCell ⟨wa.heap.size, 8, none⟩ (.slice po2 sl2 pc2)) = x := ⟨_, rfl⟩
      rw [hwb]
      have hbwb : wb.heap[wa.heap.size]? = some (.cells #[.int .u8 k2, .int .u64 bn2, .int .i64 br2, .int .u64 f2, .int .u64 l2, .int .u64 c2, .slice vo2 vl2 vc2, .slice so2 bl2 sc2, .slice po2 sl2 pc2] 29 (0, 0)) := by
        rw [← hwb]
        have h := (heap_setCell_same (i := 8) (heap_setCell_same (i := 7) (heap_setCell_same (i := 6) (heap_setCell_same (i := 5) (heap_setCell_same (i := 4) (heap_setCell_same (i := 3) (heap_setCell_same (i := 2) (heap_setCell_same (i := 1) (heap_setCell_same (i := 0) hbz (.int .u8 k2)) (.int .u64 bn2)) (.int .i64 br2)) (.int .u64 f2)) (.int .u64 l2)) (.int .u64 c2)) (.slice vo2 vl2 vc2)) (.slice so2 bl2 sc2)) (.slice po2 sl2 pc2))
        simp only [List.setIfInBounds_toArray, List.set_cons_zero, List.set_cons_succ] at h
        exact h
      have mwb : Mod [] wa wb := by
        rw [← hwb]
        exact hmz.trans (T := [wa.heap.size]) (((((((((Mod.setCell _ _ _ (by simp)).trans' (Mod.setCell _ _ _ (by simp))).trans' (Mod.setCell _ _ _ (by simp))).trans' (Mod.setCell _ _ _ (by simp))).trans' (Mod.setCell _ _ _ (by simp))).trans' (Mod.setCell _ _ _ (by simp))).trans' (Mod.setCell _ _ _ (by simp))).trans' (Mod.setCell _ _ _ (by simp))).trans' (Mod.setCell _ _ _ (by simp))) (by simp)
      clear z0 z1 z2 z3 z4 z5 z6 z7 z8 y0 y1 y2 y3 y4 y5 y6 y7 y8 hbz hmz hwz hwb
      have MB := Lib.hid (M9'.out.trans' mwb)
      clear mwb hbwb M9'
      have HX := Lib.hid (WK.out wb MB.out)
      go_wp2_with fail
      refine HX.out.mono ?_
      rintro e we ⟨rfl, me⟩
      have MF := Lib.hid (MB.out.trans' me)
      clear me HX
      go_wp2_with fail
      go_ret
      exact ⟨rfl, MF.out⟩
end Go.Proofs.YtekdnljincbghaaDoor
