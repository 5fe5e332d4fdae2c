/- The walk of the law CmdTells. -/
import Derived.Test.YtaagfoeedngdjaaDoorCmdTakes
import Derived.Handy
import Derived.Lib.SlBytesConst
namespace Go.Proofs.YtaagfoeedngdjaaDoor
open Go Go.RowKit Go.Lib

theorem two_sees (c d : Cm) (w : World) (hc : SeesT w c.2.1 c.1.keys) (hd : SeesT w d.2.1 d.1.keys) (hwc : Wf c.1) (hwd : Wf d.1) :
    SeesC (w.alloc (.cells #[.int .u32 (c.1.client : Int), .int .u32 (c.1.seq : Int), .int .u8 (c.1.kind : Int), .slice c.2.1 c.1.keys.length c.2.2, .string c.1.old, .string c.1.fresh, .int .i64 c.1.n,
      .int .u32 (d.1.client : Int), .int .u32 (d.1.seq : Int), .int .u8 (d.1.kind : Int), .slice d.2.1 d.1.keys.length d.2.2, .string d.1.old, .string d.1.fresh, .int .i64 d.1.n] 36)) (some ⟨w.heap.size, 0, none⟩) [c, d] := by
  have hb := heap_alloc_new w (.cells #[.int .u32 (c.1.client : Int), .int .u32 (c.1.seq : Int), .int .u8 (c.1.kind : Int), .slice c.2.1 c.1.keys.length c.2.2, .string c.1.old, .string c.1.fresh, .int .i64 c.1.n,
      .int .u32 (d.1.client : Int), .int .u32 (d.1.seq : Int), .int .u8 (d.1.kind : Int), .slice d.2.1 d.1.keys.length d.2.2, .string d.1.old, .string d.1.fresh, .int .i64 d.1.n] 36)
  have hm := Mod.alloc [] w (.cells #[.int .u32 (c.1.client : Int), .int .u32 (c.1.seq : Int), .int .u8 (c.1.kind : Int), .slice c.2.1 c.1.keys.length c.2.2, .string c.1.old, .string c.1.fresh, .int .i64 c.1.n,
      .int .u32 (d.1.client : Int), .int .u32 (d.1.seq : Int), .int .u8 (d.1.kind : Int), .slice d.2.1 d.1.keys.length d.2.2, .string d.1.old, .string d.1.fresh, .int .i64 d.1.n] 36)
  intro j hj
  have h2 : j < 2 := hj
  rcases (show j = 0 ∨ j = 1 by omega) with rfl | rfl
  · exact ⟨w.heap.size, 0, rfl, cell_of_block hb, cell_of_block hb, cell_of_block hb, cell_of_block hb, cell_of_block hb, cell_of_block hb, cell_of_block hb, hc.mod0 hm, hwc⟩
  · exact ⟨w.heap.size, 0, rfl, cell_of_block hb, cell_of_block hb, cell_of_block hb, cell_of_block hb, cell_of_block hb, cell_of_block hb, cell_of_block hb, hd.mod0 hm, hwd⟩

theorem alloc_twice (w : World) (o o' : Obj) : Mod [w.heap.size] (w.alloc o) (w.alloc o') := by
  refine ⟨rfl, rfl, rfl, by simp, fun k hk hn => ?_⟩
  have h1 : k < w.heap.size := by
    have hk : k < (w.alloc o).heap.size := hk
    simp at hk
    have : k ≠ w.heap.size := fun e => hn (by simp [e])
    omega
  rw [Below.heap_alloc w o k h1, Below.heap_alloc w o' k h1]

set_option maxRecDepth 100000 in
set_option maxHeartbeats 8000000 in
theorem cmdTells_any (ao : Option Addr) (len cap : Nat) (l : List Cm) (c d : Cm) (w : World) (hl : l.length = len) (hlen : len ≤ 9223372036854775807) (hs : SeesC w ao l)
    (hwc : Wf c.1) (hkc : SeesT w c.2.1 c.1.keys) (hwd : Wf d.1) (hkd : SeesT w d.2.1 d.1.keys) (ht : Cnt w) :
    Calls Tryd.prog 5 #[.slice ao len cap, cmdV c, cmdV d] w fun e w' => e = .returned (.bool true) ∧ Mod [] w w' := by
  obtain ⟨⟨client, seq, kind, keys, old, fresh, n⟩, kao, kcap⟩ := c
  obtain ⟨⟨client', seq', kind', keys', old', fresh', n'⟩, kao', kcap'⟩ := d
  subst hl
  obtain ⟨w1, hw1, A1, m1⟩ : ∃ w1, w.alloc (.cells #[.int .u32 (client : Int), .int .u32 (seq : Int), .int .u8 (kind : Int), .slice kao keys.length kcap, .string old, .string fresh, .int .i64 n] 36) = w1 ∧ CmdAt w1 w.heap.size (⟨client, seq, kind, keys, old, fresh, n⟩, kao, kcap) ∧ Mod [] w w1 :=
    ⟨_, rfl, box_at (⟨client, seq, kind, keys, old, fresh, n⟩, kao, kcap) w, Mod.alloc _ _ _⟩
  obtain ⟨w2, hw2, B2, m2⟩ : ∃ w2, w1.alloc (.cells #[.int .u32 (client' : Int), .int .u32 (seq' : Int), .int .u8 (kind' : Int), .slice kao' keys'.length kcap', .string old', .string fresh', .int .i64 n'] 36) = w2 ∧ CmdAt w2 w1.heap.size (⟨client', seq', kind', keys', old', fresh', n'⟩, kao', kcap') ∧ Mod [] w1 w2 :=
    ⟨_, rfl, box_at (⟨client', seq', kind', keys', old', fresh', n'⟩, kao', kcap') w1, Mod.alloc _ _ _⟩
  have hz1 : w1.heap.size = w.heap.size + 1 := by rw [← hw1]; simp
  rw [hz1] at B2
  have M2 := Lib.hid (m1.trans' m2)
  have A2 := Lib.hid (A1.mod0 m2)
  have HB2 := Lib.hid B2
  have HG := Lib.hid (great_any ao l.length cap l w2 rfl (hs.mod0 M2.out) (by omega))
  have HS := Lib.hid hs
  have HKC := Lib.hid hkc
  have HKD := Lib.hid hkd
  have HT := Lib.hid ht
  have HWC := Lib.hid hwc
  have HWD := Lib.hid hwd
  show Calls Tryd.prog 5 #[.slice ao l.length cap, .agg #[.int .u32 (client : Int), .int .u32 (seq : Int), .int .u8 (kind : Int), .slice kao keys.length kcap, .string old, .string fresh, .int .i64 n], .agg #[.int .u32 (client' : Int), .int .u32 (seq' : Int), .int .u8 (kind' : Int), .slice kao' keys'.length kcap', .string old', .string fresh', .int .i64 n']] w fun e w' => e = .returned (.bool true) ∧ Mod [] w w'
  clear hs hkc hkd ht hwc hwd m1 m2 A1 B2
  go_enter Tryd.func5, Tryd.ntmps5
  go_wp2_with fail
  refine HG.out.mono ?_
  rintro e w3 ⟨gb, rfl, m3, hgr⟩
  have M3 := Lib.hid (M2.out.trans' m3)
  have A3 := Lib.hid (A2.out.mod0 m3)
  have B3 := Lib.hid (HB2.out.mod0 m3)
  have HWK := Lib.hid (wakes08_any w3 (HT.out.mod0 M3.out))
  clear m3 HG A2 HB2 hw1 hw2 M2
  cases gb
  case true =>
    clear hgr
    go_wp2_with fail
    refine HWK.out.mono ?_
    rintro e w4 ⟨rfl, m4⟩
    have M4 := Lib.hid (M3.out.trans' m4)
    clear m4
    go_wp2_with fail
    go_ret
    exact ⟨rfl, M4.out⟩
  have HL := Lib.hid (hgr rfl)
  clear hgr HWK
  obtain ⟨w4, hw4, B4, m4⟩ : ∃ w4, w3.alloc (.cells #[.int .u32 (client : Int), .int .u32 (seq : Int), .int .u8 (kind : Int), .slice kao keys.length kcap, .string old, .string fresh, .int .i64 n, .int .u32 (client' : Int), .int .u32 (seq' : Int), .int .u8 (kind' : Int), .slice kao' keys'.length kcap', .string old', .string fresh', .int .i64 n'] 36) = w4 ∧
      SeesC w4 (some ⟨w3.heap.size, 0, none⟩) [((⟨client, seq, kind, keys, old, fresh, n⟩ : Cd), kao, kcap), (⟨client', seq', kind', keys', old', fresh', n'⟩, kao', kcap')] ∧ Mod [] w3 w4 :=
    ⟨_, rfl, two_sees (⟨client, seq, kind, keys, old, fresh, n⟩, kao, kcap) (⟨client', seq', kind', keys', old', fresh', n'⟩, kao', kcap') w3 (HKC.out.mod0 M3.out) (HKD.out.mod0 M3.out) HWC.out HWD.out, Mod.alloc _ _ _⟩
  have HG := Lib.hid (great_any (some ⟨w3.heap.size, 0, none⟩) 2 2 _ w4 rfl B4 (by omega))
  have M4 := Lib.hid (M3.out.trans' m4)
  have A4 := Lib.hid (A3.out.mod0 m4)
  have B4 := Lib.hid (B3.out.mod0 m4)
  obtain ⟨p0, p1, p2, p3, p4, p5, p6⟩ := A3.out
  obtain ⟨q0, q1, q2, q3, q4, q5, q6⟩ := B3.out
  dsimp only at p0 p1 p2 p3 p4 p5 p6 q0 q1 q2 q3 q4 q5 q6
  clear m4
  go_wp2_with fail
  refine HG.out.mono ?_
  rintro e w5 ⟨gb, rfl, m5, hgr⟩
  have M5 := Lib.hid (M4.out.trans' m5)
  have A5 := Lib.hid (A4.out.mod0 m5)
  have B5 := Lib.hid (B4.out.mod0 m5)
  have HWK := Lib.hid (wakes08_any w5 (HT.out.mod0 M5.out))
  clear m5 HG A4 B4 hw4 M4 p0 p1 p2 p3 p4 p5 p6 q0 q1 q2 q3 q4 q5 q6 A3 B3 M3
  cases gb
  case true =>
    clear hgr
    go_wp2_with fail
    refine HWK.out.mono ?_
    rintro e w6 ⟨rfl, m6⟩
    have M6 := Lib.hid (M5.out.trans' m6)
    clear m6
    go_wp2_with fail
    go_ret
    exact ⟨rfl, M6.out⟩
  have HSM := Lib.hid (hgr rfl).2
  have HSC : Hid (Small ⟨client, seq, kind, keys, old, fresh, n⟩) := Lib.hid (HSM.out _ (List.mem_cons_self ..))
  have HBT := Lib.hid (batch_any ao _ cap l w5 rfl (HS.out.mod0 M5.out) HL.out.1 HL.out.2 (HT.out.mod0 M5.out))
  clear hgr HWK HSM
  go_wp2_with fail
  refine HBT.out.mono ?_
  rintro e w6 ⟨a6, k6, c6, rfl, hk6, o6, m6, n6⟩
  have M6 := Lib.hid (M5.out.trans' m6)
  have A6 := Lib.hid (A5.out.mod0 m6)
  have B6 := Lib.hid (B5.out.mod0 m6)
  have O6 := Lib.hid o6
  have HK6 := Lib.hid hk6
  have HRB := Lib.hid (refBatch_any ao _ cap l w6 rfl (HS.out.mod0 M6.out) HL.out.1 HL.out.2)
  obtain ⟨bl, hbl⟩ : ∃ x, batchR l = x := ⟨_, rfl⟩
  obtain ⟨bb, be⟩ := bl
  have HBL := Lib.hid hbl
  rw [hbl]
  dsimp only
  clear m6 o6 hk6 n6 HBT A5 B5 M5 hbl
  go_wp2_with fail
  refine HRB.out.mono ?_
  rintro e w7 ⟨a7, k7, c7, he, hk7, o7, m7, n7⟩
  rw [HBL.out] at he hk7 o7
  dsimp only at he hk7 o7
  subst he
  have M7 := Lib.hid (M6.out.trans' m7)
  have A7 := Lib.hid (A6.out.mod0 m7)
  have B7 := Lib.hid (B6.out.mod0 m7)
  have O7 := Lib.hid o7
  have P7 : Hid (OwnB w7 a6 c6 bb) := Lib.hid (by have := O6.out.mod0 m7; rw [HBL.out] at this; exact this)
  have hk6 : bb.length = k6 := by have := HK6.out; rw [HBL.out] at this; exact this
  subst hk6
  subst hk7
  clear o7 n7 m7 HRB O6 A6 B6 M6 HK6
  go_upto_region 5 with (fail)
  refine rest_start [] 52 #[false, false, false, false, false, false, false, false, false, false, false, false, false, false, false, false, false, false, false, false, false, false, false, false, false, false, false, false, false, false, false, false, false, false, false, false, false, false, false, false, false, false, false, false, false, false, false, false, false, false, false, false] rfl (by kernel_rfl) (by kernel_rfl) ?_
  intro w8 m8
  have LA : Hid (∀ w', Mod [] w8 w' → CmdAt w' w.heap.size (⟨client, seq, kind, keys, old, fresh, n⟩, kao, kcap)) := Lib.hid (fun w' m => A7.out.mod0 (m8.trans' m))
  have LB : Hid (∀ w', Mod [] w8 w' → CmdAt w' (w.heap.size + 1) (⟨client', seq', kind', keys', old', fresh', n'⟩, kao', kcap')) := Lib.hid (fun w' m => B7.out.mod0 (m8.trans' m))
  have M8 := Lib.hid (M7.out.trans' m8)
  have O8 := Lib.hid (OwnB.mod0 O7.out m8)
  have P8 := Lib.hid (OwnB.mod0 P7.out m8)
  clear m8 O7 P7 A7 B7 M7
  have LA8 := LA
  have LB8 := LB
  clear LA LB
  by_cases hmay : May ⟨client, seq, kind, keys, old, fresh, n⟩
  · have HY := Lib.hid hmay
    have HC := Lib.hid (check_any (⟨client, seq, kind, keys, old, fresh, n⟩, kao, kcap) w8 HWC.out (HKC.out.mod0 M8.out) (HT.out.mod0 M8.out))
    rw [if_pos hmay] at HC
    clear hmay
    refine rest_got (i := 0) (v := ?v1) rfl (by kernel_rfl) (by kernel_rfl) (by kernel_rfl) (fun _ _ _ h => h) (by rfl) ?y1 ?r1
    case y1 => ((intro w9' hm9'; obtain ⟨hc0', hc1', hc2', hc3', hc4', hc5', hc6'⟩ := LA8.out w9' hm9'; clear hm9'; go_simp; with_reducible rfl))
    try simp only [Act.put, List.setIfInBounds_toArray, List.set_cons_zero, List.set_cons_succ]
    refine rest_got (i := 3) (v := ?v2) rfl (by kernel_rfl) (by kernel_rfl) (by kernel_rfl) (fun _ _ _ h => h) (by rfl) ?y2 ?r2
    case y2 => ((intro w9' hm9'; obtain ⟨hc0', hc1', hc2', hc3', hc4', hc5', hc6'⟩ := LA8.out w9' hm9'; clear hm9'; go_simp; with_reducible rfl))
    try simp only [Act.put, List.setIfInBounds_toArray, List.set_cons_zero, List.set_cons_succ]
    refine rest_one (i := 1) (by kernel_rfl) rfl (by rfl) ?_
    go_wp2_with fail
    refine HC.out.mono ?_
    rintro e w9 ⟨rfl, m9⟩
    go_wp2_with fail
    refine back_to (K1 := []) m9 (by simp) ?_
    have LA9 : Hid (∀ w', Mod [] w9 w' → CmdAt w' w.heap.size (⟨client, seq, kind, keys, old, fresh, n⟩, kao, kcap)) := Lib.hid (fun w' m => LA8.out w' (m9.trans' m))
    have LB9 : Hid (∀ w', Mod [] w9 w' → CmdAt w' (w.heap.size + 1) (⟨client', seq', kind', keys', old', fresh', n'⟩, kao', kcap')) := Lib.hid (fun w' m => LB8.out w' (m9.trans' m))
    have M9 := Lib.hid (M8.out.trans' m9)
    have O9 := Lib.hid (OwnB.mod0 O8.out m9)
    have P9 := Lib.hid (OwnB.mod0 P8.out m9)
    clear m9 LA8 LB8 M8 O8 P8
    clear HC
    have HM := Lib.hid (may_any (⟨client, seq, kind, keys, old, fresh, n⟩, kao, kcap) w9 HWC.out (HKC.out.mod0 M9.out))
    rw [decide_eq_true HY.out] at HM
    refine rest_got (i := 2) (v := ?v3) rfl (by kernel_rfl) (by kernel_rfl) (by kernel_rfl) (fun _ _ _ h => h) (by rfl) ?y3 ?r3
    case y3 => (intro w9q hSwq; clear hSwq; go_simp; with_reducible rfl)
    try simp only [Act.put, List.setIfInBounds_toArray, List.set_cons_zero, List.set_cons_succ]
    refine rest_one (i := 4) (by kernel_rfl) rfl (by rfl) ?_
    go_wp2_with fail
    refine HM.out.mono ?_
    rintro e w10 ⟨rfl, m10⟩
    go_wp2_with fail
    refine back_to (K1 := []) m10 (by simp) ?_
    have LA10 : Hid (∀ w', Mod [] w10 w' → CmdAt w' w.heap.size (⟨client, seq, kind, keys, old, fresh, n⟩, kao, kcap)) := Lib.hid (fun w' m => LA9.out w' (m10.trans' m))
    have LB10 : Hid (∀ w', Mod [] w10 w' → CmdAt w' (w.heap.size + 1) (⟨client', seq', kind', keys', old', fresh', n'⟩, kao', kcap')) := Lib.hid (fun w' m => LB9.out w' (m10.trans' m))
    have M10 := Lib.hid (M9.out.trans' m10)
    have O10 := Lib.hid (OwnB.mod0 O9.out m10)
    have P10 := Lib.hid (OwnB.mod0 P9.out m10)
    clear m10 LA9 LB9 M9 O9 P9
    clear HM
    have HM := Lib.hid (may_any (⟨client, seq, kind, keys, old, fresh, n⟩, kao, kcap) w10 HWC.out (HKC.out.mod0 M10.out))
    rw [decide_eq_true HY.out] at HM
    refine rest_got (i := 5) (v := ?v4) rfl (by kernel_rfl) (by kernel_rfl) (by kernel_rfl) (fun _ _ _ h => h) (by rfl) ?y4 ?r4
    case y4 => (intro w9q hSwq; clear hSwq; go_simp; with_reducible rfl)
    try simp only [Act.put, List.setIfInBounds_toArray, List.set_cons_zero, List.set_cons_succ]
    refine rest_got (i := 6) (v := ?v5) rfl (by kernel_rfl) (by kernel_rfl) (by kernel_rfl) (fun _ _ _ h => h) (by rfl) ?y5 ?r5
    case y5 => (intro w9q hSwq; clear hSwq; go_simp; with_reducible rfl)
    try simp only [Act.put, List.setIfInBounds_toArray, List.set_cons_zero, List.set_cons_succ]
    refine rest_got (i := 7) (v := ?v6) rfl (by kernel_rfl) (by kernel_rfl) (by kernel_rfl) (fun _ _ _ h => h) (by rfl) ?y6 ?r6
    case y6 => ((intro w9' hm9'; obtain ⟨hc0', hc1', hc2', hc3', hc4', hc5', hc6'⟩ := LA10.out w9' hm9'; clear hm9'; go_simp; with_reducible rfl))
    try simp only [Act.put, List.setIfInBounds_toArray, List.set_cons_zero, List.set_cons_succ]
    refine rest_one (i := 8) (by kernel_rfl) rfl (by rfl) ?_
    go_wp2_with fail
    refine HM.out.mono ?_
    rintro e w11 ⟨rfl, m11⟩
    go_wp2_with fail
    refine back_to (K1 := []) m11 (by simp) ?_
    have LA11 : Hid (∀ w', Mod [] w11 w' → CmdAt w' w.heap.size (⟨client, seq, kind, keys, old, fresh, n⟩, kao, kcap)) := Lib.hid (fun w' m => LA10.out w' (m11.trans' m))
    have LB11 : Hid (∀ w', Mod [] w11 w' → CmdAt w' (w.heap.size + 1) (⟨client', seq', kind', keys', old', fresh', n'⟩, kao', kcap')) := Lib.hid (fun w' m => LB10.out w' (m11.trans' m))
    have M11 := Lib.hid (M10.out.trans' m11)
    have O11 := Lib.hid (OwnB.mod0 O10.out m11)
    have P11 := Lib.hid (OwnB.mod0 P10.out m11)
    clear m11 LA10 LB10 M10 O10 P10
    clear HM
    refine rest_got (i := 9) (v := ?v7) rfl (by kernel_rfl) (by kernel_rfl) (by kernel_rfl) (fun _ _ _ h => h) (by rfl) ?y7 ?r7
    case y7 => (intro w9q hSwq; clear hSwq; go_simp; with_reducible rfl)
    try simp only [Act.put, List.setIfInBounds_toArray, List.set_cons_zero, List.set_cons_succ]
    refine rest_skip (i := 10) rfl (by kernel_rfl) (by kernel_rfl) (by kernel_rfl) (fun _ _ _ h => h) (by rfl) ?_
    try simp only [Act.put, List.setIfInBounds_toArray, List.set_cons_zero, List.set_cons_succ]
    refine rest_skip (i := 11) rfl (by kernel_rfl) (by kernel_rfl) (by kernel_rfl) (fun _ _ _ h => h) (by rfl) ?_
    try simp only [Act.put, List.setIfInBounds_toArray, List.set_cons_zero, List.set_cons_succ]
    refine rest_skip (i := 12) rfl (by kernel_rfl) (by kernel_rfl) (by kernel_rfl) (fun _ _ _ h => h) (by rfl) ?_
    try simp only [Act.put, List.setIfInBounds_toArray, List.set_cons_zero, List.set_cons_succ]
    refine rest_got (i := 13) (v := ?v8) rfl (by kernel_rfl) (by kernel_rfl) (by kernel_rfl) (fun _ _ _ h => h) (by rfl) ?y8 ?r8
    case y8 => (intro w9q hSwq; clear hSwq; go_simp; with_reducible rfl)
    try simp only [Act.put, List.setIfInBounds_toArray, List.set_cons_zero, List.set_cons_succ]
    refine rest_got (i := 14) (v := ?v9) rfl (by kernel_rfl) (by kernel_rfl) (by kernel_rfl) (fun _ _ _ h => h) (by rfl) ?y9 ?r9
    case y9 => (intro w9q hSwq; clear hSwq; go_simp; with_reducible rfl)
    try simp only [Act.put, List.setIfInBounds_toArray, List.set_cons_zero, List.set_cons_succ]
    refine rest_got (i := 15) (v := ?v10) rfl (by kernel_rfl) (by kernel_rfl) (by kernel_rfl) (fun _ _ _ h => h) (by rfl) ?y10 ?r10
    case y10 => (intro w9q hSwq; clear hSwq; go_simp; with_reducible rfl)
    try simp only [Act.put, List.setIfInBounds_toArray, List.set_cons_zero, List.set_cons_succ]
    refine rest_got (i := 18) (v := ?v11) rfl (by kernel_rfl) (by kernel_rfl) (by kernel_rfl) (fun _ _ _ h => h) (by rfl) ?y11 ?r11
    case y11 => ((intro w9' hm9'; obtain ⟨hc0', hc1', hc2', hc3', hc4', hc5', hc6'⟩ := LA11.out w9' hm9'; clear hm9'; go_simp; with_reducible rfl))
    try simp only [Act.put, List.setIfInBounds_toArray, List.set_cons_zero, List.set_cons_succ]
    refine rest_got (i := 21) (v := ?v12) rfl (by kernel_rfl) (by kernel_rfl) (by kernel_rfl) (fun _ _ _ h => h) (by rfl) ?y12 ?r12
    case y12 => ((intro w9' hm9'; obtain ⟨hc0', hc1', hc2', hc3', hc4', hc5', hc6'⟩ := LA11.out w9' hm9'; clear hm9'; go_simp; with_reducible rfl))
    try simp only [Act.put, List.setIfInBounds_toArray, List.set_cons_zero, List.set_cons_succ]
    refine rest_one (i := 16) (by kernel_rfl) rfl (by rfl) ?_
    go_wp2_with fail
    refine back_to (K1 := [w11.heap.size]) (Mod.alloc [] w11 (.cells #[.int .u8 122] 5)) (fun j hj hl => by simp at hj; omega) ?_
    have cv := Lib.run_convert_bytes_const (P := Tryd.prog) w11 23 5 #[.int .u8 122] 1 1 Tryd.underlying23 Tryd.underlying5
    
    refine rest_one (i := 17) (by kernel_rfl) rfl (by rfl) ?_
    go_wp2_with fail
    clear cv
    have zb := heap_alloc_new w11 (.cells #[.int .u8 122] 5 (1, 2))
    have mz := Mod.alloc [] w11 (.cells #[.int .u8 122] 5 (1, 2))
    have m12 : Mod [w11.heap.size] (w11.alloc (.cells #[.int .u8 122] 5)) (w11.alloc (.cells #[.int .u8 122] 5 (1, 2))) := alloc_twice _ _ _
    refine back_to (K1 := [w11.heap.size]) m12 (by simp) ?_
    clear m12
    obtain ⟨w12, hw12⟩ : ∃ x, w11.alloc (.cells #[.int .u8 122] 5 (1, 2)) = x := ⟨_, rfl⟩
    obtain ⟨zz, hzz⟩ : ∃ x, w11.heap.size = x := ⟨_, rfl⟩
    rw [hw12] at zb mz ⊢
    rw [hzz] at zb ⊢
    have Z12 : Hid (OwnB w12 (some ⟨zz, 0, none⟩) 1 [122]) := Lib.hid (OwnB.lit1 zb 122 rfl (.inr (Nat.le_refl 1)))
    have NZ : Hid (w11.heap.size ≤ zz) := Lib.hid (Nat.le_of_eq hzz)
    have MB : Hid (Mod [] w11 w12) := Lib.hid mz
    have LK : Hid (keys ≠ [] → ∀ j, j ∈ blk kao → j < w11.heap.size) := Lib.hid (SeesT.lt (HKC.out.mod0 M11.out))
    clear mz zb hw12 hzz
    have HP := Lib.hid (put_any (some ⟨zz, 0, none⟩) 1 1 [122] (⟨client, seq, kind, keys, old, fresh, n⟩, kao, kcap) w12 rfl Z12.out (by omega) HWC.out HSC.out (HKC.out.mod0 (M11.out.trans' MB.out)) (fun h j hj hz => by have h1 := LK.out h j hj; have h2 := NZ.out; simp [blk] at hz; omega))
    refine rest_one (i := 19) (by kernel_rfl) rfl (by rfl) ?_
    go_wp2_with fail
    refine HP.out.mono ?_
    rintro e w13 ⟨za, zn, zc, rfl, hzn, zo, mz, nz⟩
    subst hzn
    go_wp2_with fail
    have mzz : Mod [zz] w12 w13 := mz
    refine back_to (K1 := []) mzz (by simp) ?_
    have Z13 := Lib.hid zo
    have mf : Mod [] w11 w13 := MB.out.trans mzz (fun j hj hl => by have h2 := NZ.out; simp at hj; omega)
    clear mz mzz zo nz HP LK MB Z12
    have LA13 : Hid (∀ w', Mod [] w13 w' → CmdAt w' w.heap.size (⟨client, seq, kind, keys, old, fresh, n⟩, kao, kcap)) := Lib.hid (fun w' m => LA11.out w' (mf.trans' m))
    have LB13 : Hid (∀ w', Mod [] w13 w' → CmdAt w' (w.heap.size + 1) (⟨client', seq', kind', keys', old', fresh', n'⟩, kao', kcap')) := Lib.hid (fun w' m => LB11.out w' (mf.trans' m))
    have M13 := Lib.hid (M11.out.trans' mf)
    have O13 := Lib.hid (OwnB.mod0 O11.out mf)
    have P13 := Lib.hid (OwnB.mod0 P11.out mf)
    clear mf LA11 LB11 M11 O11 P11
    clear NZ
    have HLN : ([122] : List UInt8).length + (oneB (⟨client, seq, kind, keys, old, fresh, n⟩ : Cd)).length ≤ 9223372036854775807 := by have := oneB_len _ HSC.out; simp; omega
    have HLN := Lib.hid HLN
    have HO := Lib.hid (one_any (⟨client, seq, kind, keys, old, fresh, n⟩, kao, kcap) w13 HWC.out HSC.out (HKC.out.mod0 M13.out))
    refine rest_got (i := 20) (v := ?v13) rfl (by kernel_rfl) (by kernel_rfl) (by kernel_rfl) (fun _ _ _ h => h) (by rfl) ?y13 ?r13
    case y13 => ((intro w9' hm9'; refine Eq.trans (reads_str _ _ _ _ 5 Tryd.underlying23 Tryd.underlying5 Tryd.underlying9 _ _ _ _ rfl (by first | rfl | simp) Z13.out.sees (by first | (intro k _ hk; exact (List.not_mem_nil hk)) | simp) w9' hm9') ?_; with_reducible rfl))
    try simp only [Act.put, List.setIfInBounds_toArray, List.set_cons_zero, List.set_cons_succ]
    refine rest_one (i := 22) (by kernel_rfl) rfl (by rfl) ?_
    go_wp2_with fail
    refine HO.out.mono ?_
    rintro e w14 ⟨ya, yn, yc, rfl, hyn, yo, mz, nz⟩
    subst hyn
    go_wp2_with fail
    have mf : Mod [] w13 w14 := mz
    refine back_to (K1 := []) mf (by simp) ?_
    have Y14 := Lib.hid yo
    clear mz nz yo HO
    have LA14 : Hid (∀ w', Mod [] w14 w' → CmdAt w' w.heap.size (⟨client, seq, kind, keys, old, fresh, n⟩, kao, kcap)) := Lib.hid (fun w' m => LA13.out w' (mf.trans' m))
    have LB14 : Hid (∀ w', Mod [] w14 w' → CmdAt w' (w.heap.size + 1) (⟨client', seq', kind', keys', old', fresh', n'⟩, kao', kcap')) := Lib.hid (fun w' m => LB13.out w' (mf.trans' m))
    have M14 := Lib.hid (M13.out.trans' mf)
    have O14 := Lib.hid (OwnB.mod0 O13.out mf)
    have P14 := Lib.hid (OwnB.mod0 P13.out mf)
    have Z14 := Lib.hid (OwnB.mod0 Z13.out mf)
    clear mf LA13 LB13 M13 O13 P13 Z13
    have HS1 := Lib.hid (sameCmd_any (⟨client, seq, kind, keys, old, fresh, n⟩, kao, kcap) (⟨client', seq', kind', keys', old', fresh', n'⟩, kao', kcap') w14 HWC.out HWD.out (HKC.out.mod0 M14.out) (HKD.out.mod0 M14.out))
    obtain ⟨sb, hsb⟩ : ∃ x, decide (SameC (⟨client, seq, kind, keys, old, fresh, n⟩ : Cd) ⟨client', seq', kind', keys', old', fresh', n'⟩) = x := ⟨_, rfl⟩
    rw [hsb] at HS1
    have HSB := Lib.hid hsb
    clear hsb
    have sbb : (sb == sb) = true := by simp
    have bee : (be == be) = true := by simp
    refine rest_got (i := 23) (v := ?v14) rfl (by kernel_rfl) (by kernel_rfl) (by kernel_rfl) (fun _ _ _ h => h) (by rfl) ?y14 ?r14
    case y14 => ((intro w9' hm9'; refine Eq.trans (reads_str _ _ _ _ 5 Tryd.underlying23 Tryd.underlying5 Tryd.underlying9 _ _ _ _ rfl (by first | rfl | simp) Y14.out.sees (by first | (intro k _ hk; exact (List.not_mem_nil hk)) | simp) w9' hm9') ?_; with_reducible rfl))
    try simp only [Act.put, List.setIfInBounds_toArray, List.set_cons_zero, List.set_cons_succ]
    refine rest_got (i := 24) (v := ?v15) rfl (by kernel_rfl) (by kernel_rfl) (by kernel_rfl) (fun _ _ _ h => h) (by rfl) ?y15 ?r15
    case y15 => ((intro w9' hm9'; refine Eq.trans (reads_cat w9' _ _ _ _ _ rfl rfl HLN.out) ?_; with_reducible rfl))
    try simp only [Act.put, List.setIfInBounds_toArray, List.set_cons_zero, List.set_cons_succ]
    refine rest_got (i := 25) (v := ?v16) rfl (by kernel_rfl) (by kernel_rfl) (by kernel_rfl) (fun _ _ _ h => h) (by rfl) ?y16 ?r16
    case y16 => ((intro w9' hm9'; refine Eq.trans (reads_eqs w9' _ _ _ _ _ rfl rfl) ?_; refine Eq.trans (congrArg (fun b => Result.ok (Next.value (Value.bool b)) w9') (decide_eq_true rfl)) ?_; with_reducible rfl))
    try simp only [Act.put, List.setIfInBounds_toArray, List.set_cons_zero, List.set_cons_succ]
    refine rest_got (i := 26) (v := ?v17) rfl (by kernel_rfl) (by kernel_rfl) (by kernel_rfl) (fun _ _ _ h => h) (by rfl) ?y17 ?r17
    case y17 => (intro w9q hSwq; clear hSwq; go_simp; with_reducible rfl)
    try simp only [Act.put, List.setIfInBounds_toArray, List.set_cons_zero, List.set_cons_succ]
    refine rest_got (i := 27) (v := ?v18) rfl (by kernel_rfl) (by kernel_rfl) (by kernel_rfl) (fun _ _ _ h => h) (by rfl) ?y18 ?r18
    case y18 => (intro w9q hSwq; clear hSwq; go_simp; with_reducible rfl)
    try simp only [Act.put, List.setIfInBounds_toArray, List.set_cons_zero, List.set_cons_succ]
    refine rest_got (i := 28) (v := ?v19) rfl (by kernel_rfl) (by kernel_rfl) (by kernel_rfl) (fun _ _ _ h => h) (by rfl) ?y19 ?r19
    case y19 => ((intro w9' hm9'; obtain ⟨hc0', hc1', hc2', hc3', hc4', hc5', hc6'⟩ := LA14.out w9' hm9'; clear hm9'; go_simp; with_reducible rfl))
    try simp only [Act.put, List.setIfInBounds_toArray, List.set_cons_zero, List.set_cons_succ]
    refine rest_got (i := 29) (v := ?v20) rfl (by kernel_rfl) (by kernel_rfl) (by kernel_rfl) (fun _ _ _ h => h) (by rfl) ?y20 ?r20
    case y20 => ((intro w9' hm9'; obtain ⟨hc0', hc1', hc2', hc3', hc4', hc5', hc6'⟩ := LB14.out w9' hm9'; clear hm9'; go_simp; with_reducible rfl))
    try simp only [Act.put, List.setIfInBounds_toArray, List.set_cons_zero, List.set_cons_succ]
    refine rest_got (i := 31) (v := ?v21) rfl (by kernel_rfl) (by kernel_rfl) (by kernel_rfl) (fun _ _ _ h => h) (by rfl) ?y21 ?r21
    case y21 => ((intro w9' hm9'; obtain ⟨hc0', hc1', hc2', hc3', hc4', hc5', hc6'⟩ := LA14.out w9' hm9'; clear hm9'; go_simp; with_reducible rfl))
    try simp only [Act.put, List.setIfInBounds_toArray, List.set_cons_zero, List.set_cons_succ]
    refine rest_got (i := 32) (v := ?v22) rfl (by kernel_rfl) (by kernel_rfl) (by kernel_rfl) (fun _ _ _ h => h) (by rfl) ?y22 ?r22
    case y22 => ((intro w9' hm9'; obtain ⟨hc0', hc1', hc2', hc3', hc4', hc5', hc6'⟩ := LB14.out w9' hm9'; clear hm9'; go_simp; with_reducible rfl))
    try simp only [Act.put, List.setIfInBounds_toArray, List.set_cons_zero, List.set_cons_succ]
    refine rest_one (i := 30) (by kernel_rfl) rfl (by rfl) ?_
    go_wp2_with fail
    refine HS1.out.mono ?_
    rintro e w15 ⟨rfl, m15⟩
    go_wp2_with fail
    refine back_to (K1 := []) m15 (by simp) ?_
    have LA15 : Hid (∀ w', Mod [] w15 w' → CmdAt w' w.heap.size (⟨client, seq, kind, keys, old, fresh, n⟩, kao, kcap)) := Lib.hid (fun w' m => LA14.out w' (m15.trans' m))
    have LB15 : Hid (∀ w', Mod [] w15 w' → CmdAt w' (w.heap.size + 1) (⟨client', seq', kind', keys', old', fresh', n'⟩, kao', kcap')) := Lib.hid (fun w' m => LB14.out w' (m15.trans' m))
    have M15 := Lib.hid (M14.out.trans' m15)
    have O15 := Lib.hid (OwnB.mod0 O14.out m15)
    have P15 := Lib.hid (OwnB.mod0 P14.out m15)
    clear m15 LA14 LB14 M14 O14 P14
    clear HS1
    clear Z14 Y14
    have HS2 := Lib.hid (sameRef_any (⟨client, seq, kind, keys, old, fresh, n⟩, kao, kcap) (⟨client', seq', kind', keys', old', fresh', n'⟩, kao', kcap') w15 HWC.out HWD.out (HKC.out.mod0 M15.out) (HKD.out.mod0 M15.out))
    rw [HSB.out] at HS2
    
    refine rest_one (i := 33) (by kernel_rfl) rfl (by rfl) ?_
    go_wp2_with fail
    refine HS2.out.mono ?_
    rintro e w16 ⟨rfl, m16⟩
    go_wp2_with fail
    refine back_to (K1 := []) m16 (by simp) ?_
    have LA16 : Hid (∀ w', Mod [] w16 w' → CmdAt w' w.heap.size (⟨client, seq, kind, keys, old, fresh, n⟩, kao, kcap)) := Lib.hid (fun w' m => LA15.out w' (m16.trans' m))
    have LB16 : Hid (∀ w', Mod [] w16 w' → CmdAt w' (w.heap.size + 1) (⟨client', seq', kind', keys', old', fresh', n'⟩, kao', kcap')) := Lib.hid (fun w' m => LB15.out w' (m16.trans' m))
    have M16 := Lib.hid (M15.out.trans' m16)
    have O16 := Lib.hid (OwnB.mod0 O15.out m16)
    have P16 := Lib.hid (OwnB.mod0 P15.out m16)
    clear m16 LA15 LB15 M15 O15 P15
    clear HS2
    have HW := Lib.hid (wakes08_any w16 (HT.out.mod0 M16.out))
    refine rest_got (i := 34) (v := ?v23) rfl (by kernel_rfl) (by kernel_rfl) (by kernel_rfl) (fun _ _ _ h => h) (by rfl) ?y23 ?r23
    case y23 => (intro w9q hSwq; clear hSwq; go_simp; with_reducible rfl)
    try simp only [Act.put, List.setIfInBounds_toArray, List.set_cons_zero, List.set_cons_succ]
    refine rest_got (i := 35) (v := ?v24) rfl (by kernel_rfl) (by kernel_rfl) (by kernel_rfl) (fun _ _ _ h => h) (by rfl) ?y24 ?r24
    case y24 => (intro w9q hSwq; clear hSwq; go_simp; with_reducible rfl)
    try simp only [Act.put, List.setIfInBounds_toArray, List.set_cons_zero, List.set_cons_succ]
    refine rest_got (i := 36) (v := ?v25) rfl (by kernel_rfl) (by kernel_rfl) (by kernel_rfl) (fun _ _ _ h => h) (by rfl) ?y25 ?r25
    case y25 => (intro w9q hSwq; clear hSwq; go_simp; with_reducible rfl)
    try simp only [Act.put, List.setIfInBounds_toArray, List.set_cons_zero, List.set_cons_succ]
    refine rest_got (i := 37) (v := ?v26) rfl (by kernel_rfl) (by kernel_rfl) (by kernel_rfl) (fun _ _ _ h => h) (by rfl) ?y26 ?r26
    case y26 => (intro w9q hSwq; clear hSwq; go_simp; with_reducible rfl)
    try simp only [Act.put, List.setIfInBounds_toArray, List.set_cons_zero, List.set_cons_succ]
    refine rest_got (i := 38) (v := ?v27) rfl (by kernel_rfl) (by kernel_rfl) (by kernel_rfl) (fun _ _ _ h => h) (by rfl) ?y27 ?r27
    case y27 => (intro w9q hSwq; clear hSwq; go_simp; with_reducible rfl)
    try simp only [Act.put, List.setIfInBounds_toArray, List.set_cons_zero, List.set_cons_succ]
    refine rest_got (i := 39) (v := ?v28) rfl (by kernel_rfl) (by kernel_rfl) (by kernel_rfl) (fun _ _ _ h => h) (by rfl) ?y28 ?r28
    case y28 => (intro w9q hSwq; clear hSwq; go_simp; with_reducible rfl)
    try simp only [Act.put, List.setIfInBounds_toArray, List.set_cons_zero, List.set_cons_succ]
    refine rest_got (i := 40) (v := ?v29) rfl (by kernel_rfl) (by kernel_rfl) (by kernel_rfl) (fun _ _ _ h => h) (by rfl) ?y29 ?r29
    case y29 => (intro w9q hSwq; clear hSwq; go_simp; with_reducible rfl)
    try simp only [Act.put, List.setIfInBounds_toArray, List.set_cons_zero, List.set_cons_succ]
    refine rest_got (i := 41) (v := ?v30) rfl (by kernel_rfl) (by kernel_rfl) (by kernel_rfl) (fun _ _ _ h => h) (by rfl) ?y30 ?r30
    case y30 => (intro w9q hSwq; clear hSwq; go_simp; with_reducible rfl)
    try simp only [Act.put, List.setIfInBounds_toArray, List.set_cons_zero, List.set_cons_succ]
    refine rest_got (i := 42) (v := ?v31) rfl (by kernel_rfl) (by kernel_rfl) (by kernel_rfl) (fun _ _ _ h => h) (by rfl) ?y31 ?r31
    case y31 => (intro w9q hSwq; clear hSwq; go_simp; with_reducible rfl)
    try simp only [Act.put, List.setIfInBounds_toArray, List.set_cons_zero, List.set_cons_succ]
    refine rest_got (i := 43) (v := ?v32) rfl (by kernel_rfl) (by kernel_rfl) (by kernel_rfl) (fun _ _ _ h => h) (by rfl) ?y32 ?r32
    case y32 => ((intro w9' hm9'; refine Eq.trans (reads_str _ _ _ _ 5 Tryd.underlying23 Tryd.underlying5 Tryd.underlying9 _ _ _ _ rfl (by first | rfl | simp) P16.out.sees (by first | (intro k _ hk; exact (List.not_mem_nil hk)) | simp) w9' hm9') ?_; with_reducible rfl))
    try simp only [Act.put, List.setIfInBounds_toArray, List.set_cons_zero, List.set_cons_succ]
    refine rest_got (i := 44) (v := ?v33) rfl (by kernel_rfl) (by kernel_rfl) (by kernel_rfl) (fun _ _ _ h => h) (by rfl) ?y33 ?r33
    case y33 => (intro w9q hSwq; clear hSwq; go_simp; with_reducible rfl)
    try simp only [Act.put, List.setIfInBounds_toArray, List.set_cons_zero, List.set_cons_succ]
    refine rest_got (i := 45) (v := ?v34) rfl (by kernel_rfl) (by kernel_rfl) (by kernel_rfl) (fun _ _ _ h => h) (by rfl) ?y34 ?r34
    case y34 => ((intro w9' hm9'; refine Eq.trans (reads_str _ _ _ _ 5 Tryd.underlying23 Tryd.underlying5 Tryd.underlying9 _ _ _ _ rfl (by first | rfl | simp) O16.out.sees (by first | (intro k _ hk; exact (List.not_mem_nil hk)) | simp) w9' hm9') ?_; with_reducible rfl))
    try simp only [Act.put, List.setIfInBounds_toArray, List.set_cons_zero, List.set_cons_succ]
    refine rest_got (i := 46) (v := ?v35) rfl (by kernel_rfl) (by kernel_rfl) (by kernel_rfl) (fun _ _ _ h => h) (by rfl) ?y35 ?r35
    case y35 => ((intro w9' hm9'; refine Eq.trans (reads_eqs w9' _ _ _ _ _ rfl rfl) ?_; refine Eq.trans (congrArg (fun b => Result.ok (Next.value (Value.bool b)) w9') (decide_eq_true rfl)) ?_; with_reducible rfl))
    try simp only [Act.put, List.setIfInBounds_toArray, List.set_cons_zero, List.set_cons_succ]
    refine rest_got (i := 47) (v := ?v36) rfl (by kernel_rfl) (by kernel_rfl) (by kernel_rfl) (fun _ _ _ h => h) (by rfl) ?y36 ?r36
    case y36 => (intro w9q hSwq; clear hSwq; go_simp; with_reducible rfl)
    try simp only [Act.put, List.setIfInBounds_toArray, List.set_cons_zero, List.set_cons_succ]
    refine rest_got (i := 48) (v := ?v37) rfl (by kernel_rfl) (by kernel_rfl) (by kernel_rfl) (fun _ _ _ h => h) (by rfl) ?y37 ?r37
    case y37 => (intro w9q hSwq; clear hSwq; go_simp; with_reducible rfl)
    try simp only [Act.put, List.setIfInBounds_toArray, List.set_cons_zero, List.set_cons_succ]
    refine rest_one (i := 49) (by kernel_rfl) rfl (by rfl) ?_
    go_wp2_with fail
    refine HW.out.mono ?_
    rintro e w17 ⟨rfl, m17⟩
    go_wp2_with fail
    refine back_to (K1 := []) m17 (by simp) ?_
    have LA17 : Hid (∀ w', Mod [] w17 w' → CmdAt w' w.heap.size (⟨client, seq, kind, keys, old, fresh, n⟩, kao, kcap)) := Lib.hid (fun w' m => LA16.out w' (m17.trans' m))
    have LB17 : Hid (∀ w', Mod [] w17 w' → CmdAt w' (w.heap.size + 1) (⟨client', seq', kind', keys', old', fresh', n'⟩, kao', kcap')) := Lib.hid (fun w' m => LB16.out w' (m17.trans' m))
    have M17 := Lib.hid (M16.out.trans' m17)
    have O17 := Lib.hid (OwnB.mod0 O16.out m17)
    have P17 := Lib.hid (OwnB.mod0 P16.out m17)
    clear m17 LA16 LB16 M16 O16 P16
    clear HW
    refine rest_got (i := 50) (v := ?v38) rfl (by kernel_rfl) (by kernel_rfl) (by kernel_rfl) (fun _ _ _ h => h) (by rfl) ?y38 ?r38
    case y38 => (intro w9q hSwq; clear hSwq; go_simp; with_reducible rfl)
    try simp only [Act.put, List.setIfInBounds_toArray, List.set_cons_zero, List.set_cons_succ]
    refine rest_got (i := 51) (v := ?v39) rfl (by kernel_rfl) (by kernel_rfl) (by kernel_rfl) (fun _ _ _ h => h) (by rfl) ?y39 ?r39
    case y39 => (intro w9q hSwq; clear hSwq; go_simp; with_reducible rfl)
    try simp only [Act.put, List.setIfInBounds_toArray, List.set_cons_zero, List.set_cons_succ]
    refine rest_done (by kernel_rfl) ?_ _
    go_wp2
    go_ret
    exact ⟨rfl, M17.out⟩
  · have HY := Lib.hid hmay
    have HC := Lib.hid (check_any (⟨client, seq, kind, keys, old, fresh, n⟩, kao, kcap) w8 HWC.out (HKC.out.mod0 M8.out) (HT.out.mod0 M8.out))
    rw [if_neg hmay] at HC
    clear hmay
    refine rest_got (i := 0) (v := ?v40) rfl (by kernel_rfl) (by kernel_rfl) (by kernel_rfl) (fun _ _ _ h => h) (by rfl) ?y40 ?r40
    case y40 => ((intro w9' hm9'; obtain ⟨hc0', hc1', hc2', hc3', hc4', hc5', hc6'⟩ := LA8.out w9' hm9'; clear hm9'; go_simp; with_reducible rfl))
    try simp only [Act.put, List.setIfInBounds_toArray, List.set_cons_zero, List.set_cons_succ]
    refine rest_got (i := 3) (v := ?v41) rfl (by kernel_rfl) (by kernel_rfl) (by kernel_rfl) (fun _ _ _ h => h) (by rfl) ?y41 ?r41
    case y41 => ((intro w9' hm9'; obtain ⟨hc0', hc1', hc2', hc3', hc4', hc5', hc6'⟩ := LA8.out w9' hm9'; clear hm9'; go_simp; with_reducible rfl))
    try simp only [Act.put, List.setIfInBounds_toArray, List.set_cons_zero, List.set_cons_succ]
    refine rest_one (i := 1) (by kernel_rfl) rfl (by rfl) ?_
    go_wp2_with fail
    refine HC.out.mono ?_
    rintro e w9 ⟨rfl, m9⟩
    go_wp2_with fail
    refine back_to (K1 := []) m9 (by simp) ?_
    have LA9 : Hid (∀ w', Mod [] w9 w' → CmdAt w' w.heap.size (⟨client, seq, kind, keys, old, fresh, n⟩, kao, kcap)) := Lib.hid (fun w' m => LA8.out w' (m9.trans' m))
    have LB9 : Hid (∀ w', Mod [] w9 w' → CmdAt w' (w.heap.size + 1) (⟨client', seq', kind', keys', old', fresh', n'⟩, kao', kcap')) := Lib.hid (fun w' m => LB8.out w' (m9.trans' m))
    have M9 := Lib.hid (M8.out.trans' m9)
    have O9 := Lib.hid (OwnB.mod0 O8.out m9)
    have P9 := Lib.hid (OwnB.mod0 P8.out m9)
    clear m9 LA8 LB8 M8 O8 P8
    clear HC
    have HM := Lib.hid (may_any (⟨client, seq, kind, keys, old, fresh, n⟩, kao, kcap) w9 HWC.out (HKC.out.mod0 M9.out))
    rw [decide_eq_false HY.out] at HM
    refine rest_got (i := 2) (v := ?v42) rfl (by kernel_rfl) (by kernel_rfl) (by kernel_rfl) (fun _ _ _ h => h) (by rfl) ?y42 ?r42
    case y42 => (intro w9q hSwq; clear hSwq; go_simp; with_reducible rfl)
    try simp only [Act.put, List.setIfInBounds_toArray, List.set_cons_zero, List.set_cons_succ]
    refine rest_one (i := 4) (by kernel_rfl) rfl (by rfl) ?_
    go_wp2_with fail
    refine HM.out.mono ?_
    rintro e w10 ⟨rfl, m10⟩
    go_wp2_with fail
    refine back_to (K1 := []) m10 (by simp) ?_
    have LA10 : Hid (∀ w', Mod [] w10 w' → CmdAt w' w.heap.size (⟨client, seq, kind, keys, old, fresh, n⟩, kao, kcap)) := Lib.hid (fun w' m => LA9.out w' (m10.trans' m))
    have LB10 : Hid (∀ w', Mod [] w10 w' → CmdAt w' (w.heap.size + 1) (⟨client', seq', kind', keys', old', fresh', n'⟩, kao', kcap')) := Lib.hid (fun w' m => LB9.out w' (m10.trans' m))
    have M10 := Lib.hid (M9.out.trans' m10)
    have O10 := Lib.hid (OwnB.mod0 O9.out m10)
    have P10 := Lib.hid (OwnB.mod0 P9.out m10)
    clear m10 LA9 LB9 M9 O9 P9
    clear HM
    have HM := Lib.hid (may_any (⟨client, seq, kind, keys, old, fresh, n⟩, kao, kcap) w10 HWC.out (HKC.out.mod0 M10.out))
    rw [decide_eq_false HY.out] at HM
    refine rest_got (i := 5) (v := ?v43) rfl (by kernel_rfl) (by kernel_rfl) (by kernel_rfl) (fun _ _ _ h => h) (by rfl) ?y43 ?r43
    case y43 => (intro w9q hSwq; clear hSwq; go_simp; with_reducible rfl)
    try simp only [Act.put, List.setIfInBounds_toArray, List.set_cons_zero, List.set_cons_succ]
    refine rest_got (i := 6) (v := ?v44) rfl (by kernel_rfl) (by kernel_rfl) (by kernel_rfl) (fun _ _ _ h => h) (by rfl) ?y44 ?r44
    case y44 => (intro w9q hSwq; clear hSwq; go_simp; with_reducible rfl)
    try simp only [Act.put, List.setIfInBounds_toArray, List.set_cons_zero, List.set_cons_succ]
    refine rest_got (i := 7) (v := ?v45) rfl (by kernel_rfl) (by kernel_rfl) (by kernel_rfl) (fun _ _ _ h => h) (by rfl) ?y45 ?r45
    case y45 => ((intro w9' hm9'; obtain ⟨hc0', hc1', hc2', hc3', hc4', hc5', hc6'⟩ := LA10.out w9' hm9'; clear hm9'; go_simp; with_reducible rfl))
    try simp only [Act.put, List.setIfInBounds_toArray, List.set_cons_zero, List.set_cons_succ]
    refine rest_one (i := 8) (by kernel_rfl) rfl (by rfl) ?_
    go_wp2_with fail
    refine HM.out.mono ?_
    rintro e w11 ⟨rfl, m11⟩
    go_wp2_with fail
    refine back_to (K1 := []) m11 (by simp) ?_
    have LA11 : Hid (∀ w', Mod [] w11 w' → CmdAt w' w.heap.size (⟨client, seq, kind, keys, old, fresh, n⟩, kao, kcap)) := Lib.hid (fun w' m => LA10.out w' (m11.trans' m))
    have LB11 : Hid (∀ w', Mod [] w11 w' → CmdAt w' (w.heap.size + 1) (⟨client', seq', kind', keys', old', fresh', n'⟩, kao', kcap')) := Lib.hid (fun w' m => LB10.out w' (m11.trans' m))
    have M11 := Lib.hid (M10.out.trans' m11)
    have O11 := Lib.hid (OwnB.mod0 O10.out m11)
    have P11 := Lib.hid (OwnB.mod0 P10.out m11)
    clear m11 LA10 LB10 M10 O10 P10
    clear HM
    have HC := Lib.hid (check_any (⟨client, seq, kind, keys, old, fresh, n⟩, kao, kcap) w11 HWC.out (HKC.out.mod0 M11.out) (HT.out.mod0 M11.out))
    rw [if_neg HY.out] at HC
    refine rest_got (i := 9) (v := ?v46) rfl (by kernel_rfl) (by kernel_rfl) (by kernel_rfl) (fun _ _ _ h => h) (by rfl) ?y46 ?r46
    case y46 => (intro w9q hSwq; clear hSwq; go_simp; with_reducible rfl)
    try simp only [Act.put, List.setIfInBounds_toArray, List.set_cons_zero, List.set_cons_succ]
    refine rest_got (i := 10) (v := ?v47) rfl (by kernel_rfl) (by kernel_rfl) (by kernel_rfl) (fun _ _ _ h => h) (by rfl) ?y47 ?r47
    case y47 => ((intro w9' hm9'; obtain ⟨hc0', hc1', hc2', hc3', hc4', hc5', hc6'⟩ := LA11.out w9' hm9'; clear hm9'; go_simp; with_reducible rfl))
    try simp only [Act.put, List.setIfInBounds_toArray, List.set_cons_zero, List.set_cons_succ]
    refine rest_one (i := 11) (by kernel_rfl) rfl (by rfl) ?_
    go_wp2_with fail
    refine HC.out.mono ?_
    rintro e w12 ⟨rfl, m12⟩
    go_wp2_with fail
    refine back_to (K1 := []) m12 (by simp) ?_
    have LA12 : Hid (∀ w', Mod [] w12 w' → CmdAt w' w.heap.size (⟨client, seq, kind, keys, old, fresh, n⟩, kao, kcap)) := Lib.hid (fun w' m => LA11.out w' (m12.trans' m))
    have LB12 : Hid (∀ w', Mod [] w12 w' → CmdAt w' (w.heap.size + 1) (⟨client', seq', kind', keys', old', fresh', n'⟩, kao', kcap')) := Lib.hid (fun w' m => LB11.out w' (m12.trans' m))
    have M12 := Lib.hid (M11.out.trans' m12)
    have O12 := Lib.hid (OwnB.mod0 O11.out m12)
    have P12 := Lib.hid (OwnB.mod0 P11.out m12)
    clear m12 LA11 LB11 M11 O11 P11
    clear HC
    refine rest_got (i := 12) (v := ?v48) rfl (by kernel_rfl) (by kernel_rfl) (by kernel_rfl) (fun _ _ _ h => h) (by rfl) ?y48 ?r48
    case y48 => (intro w9q hSwq; clear hSwq; go_simp; with_reducible rfl)
    try simp only [Act.put, List.setIfInBounds_toArray, List.set_cons_zero, List.set_cons_succ]
    refine rest_got (i := 13) (v := ?v49) rfl (by kernel_rfl) (by kernel_rfl) (by kernel_rfl) (fun _ _ _ h => h) (by rfl) ?y49 ?r49
    case y49 => (intro w9q hSwq; clear hSwq; go_simp; with_reducible rfl)
    try simp only [Act.put, List.setIfInBounds_toArray, List.set_cons_zero, List.set_cons_succ]
    refine rest_got (i := 14) (v := ?v50) rfl (by kernel_rfl) (by kernel_rfl) (by kernel_rfl) (fun _ _ _ h => h) (by rfl) ?y50 ?r50
    case y50 => (intro w9q hSwq; clear hSwq; go_simp; with_reducible rfl)
    try simp only [Act.put, List.setIfInBounds_toArray, List.set_cons_zero, List.set_cons_succ]
    refine rest_got (i := 15) (v := ?v51) rfl (by kernel_rfl) (by kernel_rfl) (by kernel_rfl) (fun _ _ _ h => h) (by rfl) ?y51 ?r51
    case y51 => (intro w9q hSwq; clear hSwq; go_simp; with_reducible rfl)
    try simp only [Act.put, List.setIfInBounds_toArray, List.set_cons_zero, List.set_cons_succ]
    refine rest_got (i := 18) (v := ?v52) rfl (by kernel_rfl) (by kernel_rfl) (by kernel_rfl) (fun _ _ _ h => h) (by rfl) ?y52 ?r52
    case y52 => ((intro w9' hm9'; obtain ⟨hc0', hc1', hc2', hc3', hc4', hc5', hc6'⟩ := LA12.out w9' hm9'; clear hm9'; go_simp; with_reducible rfl))
    try simp only [Act.put, List.setIfInBounds_toArray, List.set_cons_zero, List.set_cons_succ]
    refine rest_got (i := 21) (v := ?v53) rfl (by kernel_rfl) (by kernel_rfl) (by kernel_rfl) (fun _ _ _ h => h) (by rfl) ?y53 ?r53
    case y53 => ((intro w9' hm9'; obtain ⟨hc0', hc1', hc2', hc3', hc4', hc5', hc6'⟩ := LA12.out w9' hm9'; clear hm9'; go_simp; with_reducible rfl))
    try simp only [Act.put, List.setIfInBounds_toArray, List.set_cons_zero, List.set_cons_succ]
    refine rest_one (i := 16) (by kernel_rfl) rfl (by rfl) ?_
    go_wp2_with fail
    refine back_to (K1 := [w12.heap.size]) (Mod.alloc [] w12 (.cells #[.int .u8 122] 5)) (fun j hj hl => by simp at hj; omega) ?_
    have cv := Lib.run_convert_bytes_const (P := Tryd.prog) w12 23 5 #[.int .u8 122] 1 1 Tryd.underlying23 Tryd.underlying5
    
    refine rest_one (i := 17) (by kernel_rfl) rfl (by rfl) ?_
    go_wp2_with fail
    clear cv
    have zb := heap_alloc_new w12 (.cells #[.int .u8 122] 5 (1, 2))
    have mz := Mod.alloc [] w12 (.cells #[.int .u8 122] 5 (1, 2))
    have m12 : Mod [w12.heap.size] (w12.alloc (.cells #[.int .u8 122] 5)) (w12.alloc (.cells #[.int .u8 122] 5 (1, 2))) := alloc_twice _ _ _
    refine back_to (K1 := [w12.heap.size]) m12 (by simp) ?_
    clear m12
    obtain ⟨w13, hw13⟩ : ∃ x, w12.alloc (.cells #[.int .u8 122] 5 (1, 2)) = x := ⟨_, rfl⟩
    obtain ⟨zz, hzz⟩ : ∃ x, w12.heap.size = x := ⟨_, rfl⟩
    rw [hw13] at zb mz ⊢
    rw [hzz] at zb ⊢
    have Z13 : Hid (OwnB w13 (some ⟨zz, 0, none⟩) 1 [122]) := Lib.hid (OwnB.lit1 zb 122 rfl (.inr (Nat.le_refl 1)))
    have NZ : Hid (w12.heap.size ≤ zz) := Lib.hid (Nat.le_of_eq hzz)
    have MB : Hid (Mod [] w12 w13) := Lib.hid mz
    have LK : Hid (keys ≠ [] → ∀ j, j ∈ blk kao → j < w12.heap.size) := Lib.hid (SeesT.lt (HKC.out.mod0 M12.out))
    clear mz zb hw13 hzz
    have HP := Lib.hid (put_any (some ⟨zz, 0, none⟩) 1 1 [122] (⟨client, seq, kind, keys, old, fresh, n⟩, kao, kcap) w13 rfl Z13.out (by omega) HWC.out HSC.out (HKC.out.mod0 (M12.out.trans' MB.out)) (fun h j hj hz => by have h1 := LK.out h j hj; have h2 := NZ.out; simp [blk] at hz; omega))
    refine rest_one (i := 19) (by kernel_rfl) rfl (by rfl) ?_
    go_wp2_with fail
    refine HP.out.mono ?_
    rintro e w14 ⟨za, zn, zc, rfl, hzn, zo, mz, nz⟩
    subst hzn
    go_wp2_with fail
    have mzz : Mod [zz] w13 w14 := mz
    refine back_to (K1 := []) mzz (by simp) ?_
    have Z14 := Lib.hid zo
    have mf : Mod [] w12 w14 := MB.out.trans mzz (fun j hj hl => by have h2 := NZ.out; simp at hj; omega)
    clear mz mzz zo nz HP LK MB Z13
    have LA14 : Hid (∀ w', Mod [] w14 w' → CmdAt w' w.heap.size (⟨client, seq, kind, keys, old, fresh, n⟩, kao, kcap)) := Lib.hid (fun w' m => LA12.out w' (mf.trans' m))
    have LB14 : Hid (∀ w', Mod [] w14 w' → CmdAt w' (w.heap.size + 1) (⟨client', seq', kind', keys', old', fresh', n'⟩, kao', kcap')) := Lib.hid (fun w' m => LB12.out w' (mf.trans' m))
    have M14 := Lib.hid (M12.out.trans' mf)
    have O14 := Lib.hid (OwnB.mod0 O12.out mf)
    have P14 := Lib.hid (OwnB.mod0 P12.out mf)
    clear mf LA12 LB12 M12 O12 P12
    clear NZ
    have HLN : ([122] : List UInt8).length + (oneB (⟨client, seq, kind, keys, old, fresh, n⟩ : Cd)).length ≤ 9223372036854775807 := by have := oneB_len _ HSC.out; simp; omega
    have HLN := Lib.hid HLN
    have HO := Lib.hid (one_any (⟨client, seq, kind, keys, old, fresh, n⟩, kao, kcap) w14 HWC.out HSC.out (HKC.out.mod0 M14.out))
    refine rest_got (i := 20) (v := ?v54) rfl (by kernel_rfl) (by kernel_rfl) (by kernel_rfl) (fun _ _ _ h => h) (by rfl) ?y54 ?r54
    case y54 => ((intro w9' hm9'; refine Eq.trans (reads_str _ _ _ _ 5 Tryd.underlying23 Tryd.underlying5 Tryd.underlying9 _ _ _ _ rfl (by first | rfl | simp) Z14.out.sees (by first | (intro k _ hk; exact (List.not_mem_nil hk)) | simp) w9' hm9') ?_; with_reducible rfl))
    try simp only [Act.put, List.setIfInBounds_toArray, List.set_cons_zero, List.set_cons_succ]
    refine rest_one (i := 22) (by kernel_rfl) rfl (by rfl) ?_
    go_wp2_with fail
    refine HO.out.mono ?_
    rintro e w15 ⟨ya, yn, yc, rfl, hyn, yo, mz, nz⟩
    subst hyn
    go_wp2_with fail
    have mf : Mod [] w14 w15 := mz
    refine back_to (K1 := []) mf (by simp) ?_
    have Y15 := Lib.hid yo
    clear mz nz yo HO
    have LA15 : Hid (∀ w', Mod [] w15 w' → CmdAt w' w.heap.size (⟨client, seq, kind, keys, old, fresh, n⟩, kao, kcap)) := Lib.hid (fun w' m => LA14.out w' (mf.trans' m))
    have LB15 : Hid (∀ w', Mod [] w15 w' → CmdAt w' (w.heap.size + 1) (⟨client', seq', kind', keys', old', fresh', n'⟩, kao', kcap')) := Lib.hid (fun w' m => LB14.out w' (mf.trans' m))
    have M15 := Lib.hid (M14.out.trans' mf)
    have O15 := Lib.hid (OwnB.mod0 O14.out mf)
    have P15 := Lib.hid (OwnB.mod0 P14.out mf)
    have Z15 := Lib.hid (OwnB.mod0 Z14.out mf)
    clear mf LA14 LB14 M14 O14 P14 Z14
    have HS1 := Lib.hid (sameCmd_any (⟨client, seq, kind, keys, old, fresh, n⟩, kao, kcap) (⟨client', seq', kind', keys', old', fresh', n'⟩, kao', kcap') w15 HWC.out HWD.out (HKC.out.mod0 M15.out) (HKD.out.mod0 M15.out))
    obtain ⟨sb, hsb⟩ : ∃ x, decide (SameC (⟨client, seq, kind, keys, old, fresh, n⟩ : Cd) ⟨client', seq', kind', keys', old', fresh', n'⟩) = x := ⟨_, rfl⟩
    rw [hsb] at HS1
    have HSB := Lib.hid hsb
    clear hsb
    have sbb : (sb == sb) = true := by simp
    have bee : (be == be) = true := by simp
    refine rest_got (i := 23) (v := ?v55) rfl (by kernel_rfl) (by kernel_rfl) (by kernel_rfl) (fun _ _ _ h => h) (by rfl) ?y55 ?r55
    case y55 => ((intro w9' hm9'; refine Eq.trans (reads_str _ _ _ _ 5 Tryd.underlying23 Tryd.underlying5 Tryd.underlying9 _ _ _ _ rfl (by first | rfl | simp) Y15.out.sees (by first | (intro k _ hk; exact (List.not_mem_nil hk)) | simp) w9' hm9') ?_; with_reducible rfl))
    try simp only [Act.put, List.setIfInBounds_toArray, List.set_cons_zero, List.set_cons_succ]
    refine rest_got (i := 24) (v := ?v56) rfl (by kernel_rfl) (by kernel_rfl) (by kernel_rfl) (fun _ _ _ h => h) (by rfl) ?y56 ?r56
    case y56 => ((intro w9' hm9'; refine Eq.trans (reads_cat w9' _ _ _ _ _ rfl rfl HLN.out) ?_; with_reducible rfl))
    try simp only [Act.put, List.setIfInBounds_toArray, List.set_cons_zero, List.set_cons_succ]
    refine rest_got (i := 25) (v := ?v57) rfl (by kernel_rfl) (by kernel_rfl) (by kernel_rfl) (fun _ _ _ h => h) (by rfl) ?y57 ?r57
    case y57 => ((intro w9' hm9'; refine Eq.trans (reads_eqs w9' _ _ _ _ _ rfl rfl) ?_; refine Eq.trans (congrArg (fun b => Result.ok (Next.value (Value.bool b)) w9') (decide_eq_true rfl)) ?_; with_reducible rfl))
    try simp only [Act.put, List.setIfInBounds_toArray, List.set_cons_zero, List.set_cons_succ]
    refine rest_got (i := 26) (v := ?v58) rfl (by kernel_rfl) (by kernel_rfl) (by kernel_rfl) (fun _ _ _ h => h) (by rfl) ?y58 ?r58
    case y58 => (intro w9q hSwq; clear hSwq; go_simp; with_reducible rfl)
    try simp only [Act.put, List.setIfInBounds_toArray, List.set_cons_zero, List.set_cons_succ]
    refine rest_got (i := 27) (v := ?v59) rfl (by kernel_rfl) (by kernel_rfl) (by kernel_rfl) (fun _ _ _ h => h) (by rfl) ?y59 ?r59
    case y59 => (intro w9q hSwq; clear hSwq; go_simp; with_reducible rfl)
    try simp only [Act.put, List.setIfInBounds_toArray, List.set_cons_zero, List.set_cons_succ]
    refine rest_got (i := 28) (v := ?v60) rfl (by kernel_rfl) (by kernel_rfl) (by kernel_rfl) (fun _ _ _ h => h) (by rfl) ?y60 ?r60
    case y60 => ((intro w9' hm9'; obtain ⟨hc0', hc1', hc2', hc3', hc4', hc5', hc6'⟩ := LA15.out w9' hm9'; clear hm9'; go_simp; with_reducible rfl))
    try simp only [Act.put, List.setIfInBounds_toArray, List.set_cons_zero, List.set_cons_succ]
    refine rest_got (i := 29) (v := ?v61) rfl (by kernel_rfl) (by kernel_rfl) (by kernel_rfl) (fun _ _ _ h => h) (by rfl) ?y61 ?r61
    case y61 => ((intro w9' hm9'; obtain ⟨hc0', hc1', hc2', hc3', hc4', hc5', hc6'⟩ := LB15.out w9' hm9'; clear hm9'; go_simp; with_reducible rfl))
    try simp only [Act.put, List.setIfInBounds_toArray, List.set_cons_zero, List.set_cons_succ]
    refine rest_got (i := 31) (v := ?v62) rfl (by kernel_rfl) (by kernel_rfl) (by kernel_rfl) (fun _ _ _ h => h) (by rfl) ?y62 ?r62
    case y62 => ((intro w9' hm9'; obtain ⟨hc0', hc1', hc2', hc3', hc4', hc5', hc6'⟩ := LA15.out w9' hm9'; clear hm9'; go_simp; with_reducible rfl))
    try simp only [Act.put, List.setIfInBounds_toArray, List.set_cons_zero, List.set_cons_succ]
    refine rest_got (i := 32) (v := ?v63) rfl (by kernel_rfl) (by kernel_rfl) (by kernel_rfl) (fun _ _ _ h => h) (by rfl) ?y63 ?r63
    case y63 => ((intro w9' hm9'; obtain ⟨hc0', hc1', hc2', hc3', hc4', hc5', hc6'⟩ := LB15.out w9' hm9'; clear hm9'; go_simp; with_reducible rfl))
    try simp only [Act.put, List.setIfInBounds_toArray, List.set_cons_zero, List.set_cons_succ]
    refine rest_one (i := 30) (by kernel_rfl) rfl (by rfl) ?_
    go_wp2_with fail
    refine HS1.out.mono ?_
    rintro e w16 ⟨rfl, m16⟩
    go_wp2_with fail
    refine back_to (K1 := []) m16 (by simp) ?_
    have LA16 : Hid (∀ w', Mod [] w16 w' → CmdAt w' w.heap.size (⟨client, seq, kind, keys, old, fresh, n⟩, kao, kcap)) := Lib.hid (fun w' m => LA15.out w' (m16.trans' m))
    have LB16 : Hid (∀ w', Mod [] w16 w' → CmdAt w' (w.heap.size + 1) (⟨client', seq', kind', keys', old', fresh', n'⟩, kao', kcap')) := Lib.hid (fun w' m => LB15.out w' (m16.trans' m))
    have M16 := Lib.hid (M15.out.trans' m16)
    have O16 := Lib.hid (OwnB.mod0 O15.out m16)
    have P16 := Lib.hid (OwnB.mod0 P15.out m16)
    clear m16 LA15 LB15 M15 O15 P15
    clear HS1
    clear Z15 Y15
    have HS2 := Lib.hid (sameRef_any (⟨client, seq, kind, keys, old, fresh, n⟩, kao, kcap) (⟨client', seq', kind', keys', old', fresh', n'⟩, kao', kcap') w16 HWC.out HWD.out (HKC.out.mod0 M16.out) (HKD.out.mod0 M16.out))
    rw [HSB.out] at HS2
    
    refine rest_one (i := 33) (by kernel_rfl) rfl (by rfl) ?_
    go_wp2_with fail
    refine HS2.out.mono ?_
    rintro e w17 ⟨rfl, m17⟩
    go_wp2_with fail
    refine back_to (K1 := []) m17 (by simp) ?_
    have LA17 : Hid (∀ w', Mod [] w17 w' → CmdAt w' w.heap.size (⟨client, seq, kind, keys, old, fresh, n⟩, kao, kcap)) := Lib.hid (fun w' m => LA16.out w' (m17.trans' m))
    have LB17 : Hid (∀ w', Mod [] w17 w' → CmdAt w' (w.heap.size + 1) (⟨client', seq', kind', keys', old', fresh', n'⟩, kao', kcap')) := Lib.hid (fun w' m => LB16.out w' (m17.trans' m))
    have M17 := Lib.hid (M16.out.trans' m17)
    have O17 := Lib.hid (OwnB.mod0 O16.out m17)
    have P17 := Lib.hid (OwnB.mod0 P16.out m17)
    clear m17 LA16 LB16 M16 O16 P16
    clear HS2
    have HW := Lib.hid (wakes08_any w17 (HT.out.mod0 M17.out))
    refine rest_got (i := 34) (v := ?v64) rfl (by kernel_rfl) (by kernel_rfl) (by kernel_rfl) (fun _ _ _ h => h) (by rfl) ?y64 ?r64
    case y64 => (intro w9q hSwq; clear hSwq; go_simp; with_reducible rfl)
    try simp only [Act.put, List.setIfInBounds_toArray, List.set_cons_zero, List.set_cons_succ]
    refine rest_got (i := 35) (v := ?v65) rfl (by kernel_rfl) (by kernel_rfl) (by kernel_rfl) (fun _ _ _ h => h) (by rfl) ?y65 ?r65
    case y65 => (intro w9q hSwq; clear hSwq; go_simp; with_reducible rfl)
    try simp only [Act.put, List.setIfInBounds_toArray, List.set_cons_zero, List.set_cons_succ]
    refine rest_got (i := 36) (v := ?v66) rfl (by kernel_rfl) (by kernel_rfl) (by kernel_rfl) (fun _ _ _ h => h) (by rfl) ?y66 ?r66
    case y66 => (intro w9q hSwq; clear hSwq; go_simp; with_reducible rfl)
    try simp only [Act.put, List.setIfInBounds_toArray, List.set_cons_zero, List.set_cons_succ]
    refine rest_got (i := 37) (v := ?v67) rfl (by kernel_rfl) (by kernel_rfl) (by kernel_rfl) (fun _ _ _ h => h) (by rfl) ?y67 ?r67
    case y67 => (intro w9q hSwq; clear hSwq; go_simp; with_reducible rfl)
    try simp only [Act.put, List.setIfInBounds_toArray, List.set_cons_zero, List.set_cons_succ]
    refine rest_got (i := 38) (v := ?v68) rfl (by kernel_rfl) (by kernel_rfl) (by kernel_rfl) (fun _ _ _ h => h) (by rfl) ?y68 ?r68
    case y68 => (intro w9q hSwq; clear hSwq; go_simp; with_reducible rfl)
    try simp only [Act.put, List.setIfInBounds_toArray, List.set_cons_zero, List.set_cons_succ]
    refine rest_got (i := 39) (v := ?v69) rfl (by kernel_rfl) (by kernel_rfl) (by kernel_rfl) (fun _ _ _ h => h) (by rfl) ?y69 ?r69
    case y69 => (intro w9q hSwq; clear hSwq; go_simp; with_reducible rfl)
    try simp only [Act.put, List.setIfInBounds_toArray, List.set_cons_zero, List.set_cons_succ]
    refine rest_got (i := 40) (v := ?v70) rfl (by kernel_rfl) (by kernel_rfl) (by kernel_rfl) (fun _ _ _ h => h) (by rfl) ?y70 ?r70
    case y70 => (intro w9q hSwq; clear hSwq; go_simp; with_reducible rfl)
    try simp only [Act.put, List.setIfInBounds_toArray, List.set_cons_zero, List.set_cons_succ]
    refine rest_got (i := 41) (v := ?v71) rfl (by kernel_rfl) (by kernel_rfl) (by kernel_rfl) (fun _ _ _ h => h) (by rfl) ?y71 ?r71
    case y71 => (intro w9q hSwq; clear hSwq; go_simp; with_reducible rfl)
    try simp only [Act.put, List.setIfInBounds_toArray, List.set_cons_zero, List.set_cons_succ]
    refine rest_got (i := 42) (v := ?v72) rfl (by kernel_rfl) (by kernel_rfl) (by kernel_rfl) (fun _ _ _ h => h) (by rfl) ?y72 ?r72
    case y72 => (intro w9q hSwq; clear hSwq; go_simp; with_reducible rfl)
    try simp only [Act.put, List.setIfInBounds_toArray, List.set_cons_zero, List.set_cons_succ]
    refine rest_got (i := 43) (v := ?v73) rfl (by kernel_rfl) (by kernel_rfl) (by kernel_rfl) (fun _ _ _ h => h) (by rfl) ?y73 ?r73
    case y73 => ((intro w9' hm9'; refine Eq.trans (reads_str _ _ _ _ 5 Tryd.underlying23 Tryd.underlying5 Tryd.underlying9 _ _ _ _ rfl (by first | rfl | simp) P17.out.sees (by first | (intro k _ hk; exact (List.not_mem_nil hk)) | simp) w9' hm9') ?_; with_reducible rfl))
    try simp only [Act.put, List.setIfInBounds_toArray, List.set_cons_zero, List.set_cons_succ]
    refine rest_got (i := 44) (v := ?v74) rfl (by kernel_rfl) (by kernel_rfl) (by kernel_rfl) (fun _ _ _ h => h) (by rfl) ?y74 ?r74
    case y74 => (intro w9q hSwq; clear hSwq; go_simp; with_reducible rfl)
    try simp only [Act.put, List.setIfInBounds_toArray, List.set_cons_zero, List.set_cons_succ]
    refine rest_got (i := 45) (v := ?v75) rfl (by kernel_rfl) (by kernel_rfl) (by kernel_rfl) (fun _ _ _ h => h) (by rfl) ?y75 ?r75
    case y75 => ((intro w9' hm9'; refine Eq.trans (reads_str _ _ _ _ 5 Tryd.underlying23 Tryd.underlying5 Tryd.underlying9 _ _ _ _ rfl (by first | rfl | simp) O17.out.sees (by first | (intro k _ hk; exact (List.not_mem_nil hk)) | simp) w9' hm9') ?_; with_reducible rfl))
    try simp only [Act.put, List.setIfInBounds_toArray, List.set_cons_zero, List.set_cons_succ]
    refine rest_got (i := 46) (v := ?v76) rfl (by kernel_rfl) (by kernel_rfl) (by kernel_rfl) (fun _ _ _ h => h) (by rfl) ?y76 ?r76
    case y76 => ((intro w9' hm9'; refine Eq.trans (reads_eqs w9' _ _ _ _ _ rfl rfl) ?_; refine Eq.trans (congrArg (fun b => Result.ok (Next.value (Value.bool b)) w9') (decide_eq_true rfl)) ?_; with_reducible rfl))
    try simp only [Act.put, List.setIfInBounds_toArray, List.set_cons_zero, List.set_cons_succ]
    refine rest_got (i := 47) (v := ?v77) rfl (by kernel_rfl) (by kernel_rfl) (by kernel_rfl) (fun _ _ _ h => h) (by rfl) ?y77 ?r77
    case y77 => (intro w9q hSwq; clear hSwq; go_simp; with_reducible rfl)
    try simp only [Act.put, List.setIfInBounds_toArray, List.set_cons_zero, List.set_cons_succ]
    refine rest_got (i := 48) (v := ?v78) rfl (by kernel_rfl) (by kernel_rfl) (by kernel_rfl) (fun _ _ _ h => h) (by rfl) ?y78 ?r78
    case y78 => (intro w9q hSwq; clear hSwq; go_simp; with_reducible rfl)
    try simp only [Act.put, List.setIfInBounds_toArray, List.set_cons_zero, List.set_cons_succ]
    refine rest_one (i := 49) (by kernel_rfl) rfl (by rfl) ?_
    go_wp2_with fail
    refine HW.out.mono ?_
    rintro e w18 ⟨rfl, m18⟩
    go_wp2_with fail
    refine back_to (K1 := []) m18 (by simp) ?_
    have LA18 : Hid (∀ w', Mod [] w18 w' → CmdAt w' w.heap.size (⟨client, seq, kind, keys, old, fresh, n⟩, kao, kcap)) := Lib.hid (fun w' m => LA17.out w' (m18.trans' m))
    have LB18 : Hid (∀ w', Mod [] w18 w' → CmdAt w' (w.heap.size + 1) (⟨client', seq', kind', keys', old', fresh', n'⟩, kao', kcap')) := Lib.hid (fun w' m => LB17.out w' (m18.trans' m))
    have M18 := Lib.hid (M17.out.trans' m18)
    have O18 := Lib.hid (OwnB.mod0 O17.out m18)
    have P18 := Lib.hid (OwnB.mod0 P17.out m18)
    clear m18 LA17 LB17 M17 O17 P17
    clear HW
    refine rest_got (i := 50) (v := ?v79) rfl (by kernel_rfl) (by kernel_rfl) (by kernel_rfl) (fun _ _ _ h => h) (by rfl) ?y79 ?r79
    case y79 => (intro w9q hSwq; clear hSwq; go_simp; with_reducible rfl)
    try simp only [Act.put, List.setIfInBounds_toArray, List.set_cons_zero, List.set_cons_succ]
    refine rest_got (i := 51) (v := ?v80) rfl (by kernel_rfl) (by kernel_rfl) (by kernel_rfl) (fun _ _ _ h => h) (by rfl) ?y80 ?r80
    case y80 => (intro w9q hSwq; clear hSwq; go_simp; with_reducible rfl)
    try simp only [Act.put, List.setIfInBounds_toArray, List.set_cons_zero, List.set_cons_succ]
    refine rest_done (by kernel_rfl) ?_ _
    go_wp2
    go_ret
    exact ⟨rfl, M18.out⟩
end Go.Proofs.YtaagfoeedngdjaaDoor
