/- The walks of the batcher laws' does (many puts, all acts) and Great. -/
import Derived.Test.YtigamomoegpefaaDoorHBatDoes
import Derived.Test.YtigamomoegpefaaDoorHBatGreat
namespace Go.Proofs.YtigamomoegpefaaDoor
open Go Go.RowKit Go.Lib

set_option maxRecDepth 100000 in
set_option maxHeartbeats 4000000 in
theorem does_puts (d : Nat) (N : Int) (c : Cm) (W : World) (z : Nat) (w : World) (b : Nat) (F : List Nat) (g : Nat) (la : Option Addr) (lc : Nat) (l : List Wt) (ba ag now ord : Int) (h : PlS W z w b F g la lc l ba ag now now ord (rL l)) (hn : 0 ≤ now ∧ now ≤ 1000) (hag : 0 ≤ ag ∧ ag ≤ 8) (hord : 0 ≤ ord ∧ ord ≤ 100000) (hw : Wf c.1) (hk : SeesT W c.2.1 c.1.keys) (ht : Cnt W) (hr : ((d : Int)).tmod 5 = 4) :
    Calls Tryd.prog 18 #[.pointer (some ⟨b, 0, none⟩), .pointer (some ⟨g, 0, none⟩), .agg #[.int .u8 (d : Int), .int .i64 N, .int .u32 (c.1.client : Int), .int .u32 (c.1.seq : Int), .int .u8 (c.1.kind : Int), .slice c.2.1 c.1.keys.length c.2.2, .string c.1.old, .string c.1.fresh, .int .i64 c.1.n]] w (DoesW W z b g ba ag now ord) := by
  obtain ⟨w1, hw1, hb1, m1⟩ := actBox d N c w
  have c0 := cell_of_block (i := 0) hb1
  have P1 := Lib.hid (h.still m1)
  have HB1 := Lib.hid hb1
  have HK := Lib.hid hk
  have HW := Lib.hid hw
  have HT := Lib.hid ht
  have S1 : Hid (∀ k, k ∈ F ++ (g :: blk la) → k < w.heap.size) := Lib.hid (fun k hk => (List.mem_append.1 hk).elim (h.bat.lt k) (h.lts k))
  have hrm : IntKind.u8.wrap 4 = 4 := by rfl
  obtain ⟨bx, hbx⟩ : ∃ x, w.heap.size = x := ⟨_, rfl⟩
  rw [hbx] at HB1 S1 c0
  clear h m1 hb1 hk hw ht
  go_enter Tryd.func18, Tryd.ntmps18
  go_wp2_with fail
  go_loopw [11] (fun i wr => ∃ (k : Nat) (F' : List Nat) (la' : Option Addr) (lc' : Nat) (l' : List Wt) (ord' : Int), i = .int .i64 (k : Int) ∧ k ≤ 100 ∧ PlS W z wr b F' g la' lc' l' ba ag now now ord' (rL l') ∧ ord ≤ ord' ∧ ord' ≤ ord + (k : Int) ∧
      wr.heap[bx]? = some (.cells #[.int .u8 (d : Int), .int .i64 N, .int .u32 (c.1.client : Int), .int .u32 (c.1.seq : Int), .int .u8 (c.1.kind : Int), .slice c.2.1 c.1.keys.length c.2.2, .string c.1.old, .string c.1.fresh, .int .i64 c.1.n] 38 (0, 0)) ∧ bx ∉ F' ++ (g :: blk la')) (fun i _ => 100 - (intOf i).toNat)
  case atStart => exact ⟨0, F, la, lc, l, ord, rfl, by omega, P1.out, by omega, by omega, HB1.out, fun hk => by have := S1.out _ hk; omega⟩
  case round =>
    obtain ⟨k, F', la', lc', l', ord', rfl, hk, hp, o1, o2, hb, hbn⟩ := hrel
    have P := Lib.hid hp
    have HB := Lib.hid hb
    have HBN := Lib.hid hbn
    have c1 := cell_of_block (i := 1) hb
    clear hp hb hbn HB1 P1 c0
    by_cases hkN : (k : Int) < N
    case neg =>
      have D : decide ((k : Int) < N) = false := decide_eq_false hkN
      go_wp2_with fail
      go_ret
      exact ⟨rfl, F', la', lc', l', ord', now, P.out, o1, by omega, by omega, by omega⟩
    have D : decide ((k : Int) < N) = true := decide_eq_true hkN
    by_cases hk100 : k < 100
    case neg =>
      have D2 : decide ((k : Int) < 100) = false := decide_eq_false (by omega)
      go_wp2_with fail
      go_ret
      exact ⟨rfl, F', la', lc', l', ord', now, P.out, o1, by omega, by omega, by omega⟩
    have D2 : decide ((k : Int) < 100) = true := decide_eq_true (by omega)
    go_upto_region 20 with (fail)
    refine rest_start (F' ++ (g :: blk la')) 9 #[false, false, false, false, false, false, false, false, false] rfl (by kernel_rfl) (by kernel_rfl) ?_
    intro w2 m2
    have P2 := Lib.hid (P.out.still m2)
    have HB2 := Lib.hid (m2.get HB.out List.not_mem_nil)
    have LA : Hid (∀ w', Mod (F' ++ (g :: blk la')) w2 w' → CmdAt7 w' bx c) := Lib.hid (fun w' m => by
      have hb := m.get HB2.out HBN.out
      exact ⟨cell_of_block (i := 2) hb, cell_of_block (i := 3) hb, cell_of_block (i := 4) hb, cell_of_block (i := 5) hb, cell_of_block (i := 6) hb, cell_of_block (i := 7) hb, cell_of_block (i := 8) hb⟩)
    clear m2 P c1
    have hkb : ∀ k, k ∈ blk c.2.1 → c.1.keys ≠ [] → k ∉ F' := fun k hk hne hf => by
      have := HK.out.lt hne k hk
      have := P2.out.fnew k hf
      omega
    have HPB := Lib.hid (bput_any b F' ba ag now ord' (rL l') c 0 w2 P2.out.bat hag (by omega) (by omega) HW.out (HK.out.mod0 P2.out.mod) (fun hne k hk => hkb k hk hne) (HT.out.mod0 P2.out.mod))
    obtain ⟨v, hv⟩ : ∃ v, putE ag (rL l') c.1 0 = v := ⟨_, rfl⟩
    have HV := Lib.hid hv
    have vv : (v != v) = false := by simp
    clear hkb hv
    refine rest_got (i := 0) (v := ?v1) rfl (by kernel_rfl) (by kernel_rfl) (by kernel_rfl) (fun _ _ _ h => h) (by rfl) ?y1 ?r1
    case y1 => (intro w9q hSwq; clear hSwq; go_simp; with_reducible rfl)
    try simp only [Act.put, List.setIfInBounds_toArray, List.set_cons_zero, List.set_cons_succ]
    refine rest_got (i := 1) (v := ?v2) rfl (by kernel_rfl) (by kernel_rfl) (by kernel_rfl) (fun _ _ _ h => h) (by rfl) ?y2 ?r2
    case y2 => (intro w9q hSwq; clear hSwq; go_simp; with_reducible rfl)
    try simp only [Act.put, List.setIfInBounds_toArray, List.set_cons_zero, List.set_cons_succ]
    refine rest_got (i := 2) (v := ?v3) rfl (by kernel_rfl) (by kernel_rfl) (by kernel_rfl) (fun _ _ _ h => h) (by rfl) ?y3 ?r3
    case y3 => ((intro w9' hm9'; obtain ⟨hc0', hc1', hc2', hc3', hc4', hc5', hc6'⟩ := LA.out w9' hm9'; clear hm9'; go_simp; with_reducible rfl))
    try simp only [Act.put, List.setIfInBounds_toArray, List.set_cons_zero, List.set_cons_succ]
    refine rest_got (i := 4) (v := ?v4) rfl (by kernel_rfl) (by kernel_rfl) (by kernel_rfl) (fun _ _ _ h => h) (by rfl) ?y4 ?r4
    case y4 => (intro w9q hSwq; clear hSwq; go_simp; with_reducible rfl)
    try simp only [Act.put, List.setIfInBounds_toArray, List.set_cons_zero, List.set_cons_succ]
    refine rest_got (i := 5) (v := ?v5) rfl (by kernel_rfl) (by kernel_rfl) (by kernel_rfl) (fun _ _ _ h => h) (by rfl) ?y5 ?r5
    case y5 => (intro w9q hSwq; clear hSwq; go_simp; with_reducible rfl)
    try simp only [Act.put, List.setIfInBounds_toArray, List.set_cons_zero, List.set_cons_succ]
    refine rest_got (i := 6) (v := ?v6) rfl (by kernel_rfl) (by kernel_rfl) (by kernel_rfl) (fun _ _ _ h => h) (by rfl) ?y6 ?r6
    case y6 => ((intro w9' hm9'; obtain ⟨hc0', hc1', hc2', hc3', hc4', hc5', hc6'⟩ := LA.out w9' hm9'; clear hm9'; go_simp; with_reducible rfl))
    try simp only [Act.put, List.setIfInBounds_toArray, List.set_cons_zero, List.set_cons_succ]
    refine rest_one (i := 3) (by kernel_rfl) rfl (by rfl) ?_
    go_wp2_with fail
    refine HPB.out.mono ?_
    rintro e w3 ⟨he, ord3, oa, ob, mv⟩
    rw [HV.out] at he
    subst he
    go_wp2_with fail
    obtain ⟨F3, mv1, mv2, mv3⟩ := mv
    refine back_to (K1 := g :: blk la') (mv2.weaken (fun _ h => List.mem_append_left _ h)) (fun _ h _ => List.mem_append_right _ h) ?_
    have P3 := Lib.hid (P2.out.batE mv1 mv2 mv3)
    have HPR := Lib.hid (put19ref_any W g ba ag now la' lc' l' c 0 w3 P3.out.ref (by rw [← rL_length]; exact P2.out.bat.len) hag (by omega) HW.out HK.out P3.out.mod)
    have hbl : bx < w2.heap.size := lt_of_block HB2.out
    have HB3 := Lib.hid (mv2.get HB2.out (fun h => HBN.out (List.mem_append_left _ h)))
    have HN3 : Hid (bx ∉ F3) := Lib.hid (fun h => by
      rcases mv3 _ h with h | h
      · exact HBN.out (List.mem_append_left _ h)
      · omega)
    clear mv1 mv2 mv3 HPB P2 LA HB2
    refine rest_one (i := 7) (by kernel_rfl) rfl (by rfl) ?_
    go_wp2_with fail
    refine HPR.out.mono ?_
    rintro e w4 ⟨he, la4, lc4, l4, r4, q4, m4, n4⟩
    rw [HV.out] at he
    subst he
    go_wp2_with fail
    refine back_to (K1 := []) m4 (by simp) ?_
    have P4 := Lib.hid (P3.out.refE r4 m4 n4.blk)
    have Q4 := Lib.hid q4
    have HB4 := Lib.hid (m4.get HB3.out (fun h => HBN.out (List.mem_append_right _ h)))
    have HN4 : Hid (bx ∉ F3 ++ (g :: blk la4)) := Lib.hid (fun h => by
      rcases List.mem_append.1 h with h | h
      · exact HN3.out h
      · rcases List.mem_cons.1 h with h | h
        · exact HBN.out (List.mem_append_right _ (by simp [h]))
        · rcases n4.blk _ h with h | h
          · exact HBN.out (List.mem_append_right _ (by simp [h]))
          · have := lt_of_block HB3.out; omega)
    clear r4 q4 m4 n4 HPR P3 HB3 HN3
    refine rest_got (i := 8) (v := ?v7) rfl (by kernel_rfl) (by kernel_rfl) (by kernel_rfl) (fun _ _ _ h => h) (by rfl) ?y7 ?r7
    case y7 => (intro w9q hSwq; clear hSwq; go_simp; with_reducible rfl)
    try simp only [Act.put, List.setIfInBounds_toArray, List.set_cons_zero, List.set_cons_succ]
    refine rest_done (by kernel_rfl) ?_ _
    go_wp2_with fail
    go_roundw
    case rel => exact ⟨k + 1, F3, la4, lc4, l4, ord3, by go_num, by omega, by rw [Q4.out]; exact P4.out, by omega, by omega, HB4.out, HN4.out⟩
    case measure => simp [intOf]; omega

theorem does_any (d : Nat) (N : Int) (c : Cm) (W : World) (z : Nat) (w : World) (b : Nat) (F : List Nat) (g : Nat) (la : Option Addr) (lc : Nat) (l : List Wt) (n : Nat) (ag now ord : Int) (h : PlS W z w b F g la lc l (n : Int) ag now now ord (rL l)) (hn8 : n ≤ 8) (hn : 0 ≤ now ∧ now ≤ 1000) (hag : 0 ≤ ag ∧ ag ≤ 8) (hord : 0 ≤ ord ∧ ord ≤ 100000) (hw : Wf c.1) (hk : SeesT W c.2.1 c.1.keys) (ht : Cnt W) :
    Calls Tryd.prog 18 #[.pointer (some ⟨b, 0, none⟩), .pointer (some ⟨g, 0, none⟩), .agg #[.int .u8 (d : Int), .int .i64 N, .int .u32 (c.1.client : Int), .int .u32 (c.1.seq : Int), .int .u8 (c.1.kind : Int), .slice c.2.1 c.1.keys.length c.2.2, .string c.1.old, .string c.1.fresh, .int .i64 c.1.n]] w (DoesW W z b g (n : Int) ag now ord) := by
  have hr : ∀ r : Nat, d % 5 = r → ((d : Int)).tmod 5 = (r : Int) := fun r h => by rw [← h]; rfl
  have h5 : d % 5 = 0 ∨ d % 5 = 1 ∨ d % 5 = 2 ∨ d % 5 = 3 ∨ d % 5 = 4 := by omega
  rcases h5 with h5 | h5 | h5 | h5 | h5
  · exact does_put d N c W z w b F g la lc l _ ag now ord h hn hag hord hw hk ht (hr _ h5)
  · exact does_tick d N c W z w b F g la lc l _ ag now ord h hn (hr _ h5)
  · exact does_next d N c W z w b F g la lc l n ag now ord h hn8 (hr _ h5)
  · exact does_flush d N c W z w b F g la lc l _ ag now ord h (hr _ h5)
  · exact does_puts d N c W z w b F g la lc l _ ag now ord h hn hag hord hw hk ht (hr _ h5)

end Go.Proofs.YtigamomoegpefaaDoor
