/- The walk of the law CmdTakes. -/
import Derived.Test.YtaagfoeedngdjaaDoorCmdWakes
namespace Go.Proofs.YtaagfoeedngdjaaDoor
open Go Go.RowKit Go.Lib

/-- A command's cells. -/
def CmdAt (w : World) (b : Nat) (c : Cm) : Prop := w.cell? ⟨b, 0, none⟩ = some (.int .u32 (c.1.client : Int)) ∧ w.cell? ⟨b, 1, none⟩ = some (.int .u32 (c.1.seq : Int)) ∧ w.cell? ⟨b, 2, none⟩ = some (.int .u8 (c.1.kind : Int)) ∧
  w.cell? ⟨b, 3, none⟩ = some (.slice c.2.1 c.1.keys.length c.2.2) ∧ w.cell? ⟨b, 4, none⟩ = some (.string c.1.old) ∧ w.cell? ⟨b, 5, none⟩ = some (.string c.1.fresh) ∧ w.cell? ⟨b, 6, none⟩ = some (.int .i64 c.1.n)
theorem CmdAt.mod {S : List Nat} {w w' : World} {b : Nat} {c : Cm} (h : CmdAt w b c) (m : Mod S w w') (hb : b ∉ S) : CmdAt w' b c := by
  obtain ⟨h0, h1, h2, h3, h4, h5, h6⟩ := h
  exact ⟨m.cell h0 hb, m.cell h1 hb, m.cell h2 hb, m.cell h3 hb, m.cell h4 hb, m.cell h5 hb, m.cell h6 hb⟩
theorem CmdAt.mod0 {w w' : World} {b : Nat} {c : Cm} (h : CmdAt w b c) (m : Mod [] w w') : CmdAt w' b c := h.mod m List.not_mem_nil
theorem CmdAt.sees {w : World} {b : Nat} {c : Cm} (h : CmdAt w b c) (hk : SeesT w c.2.1 c.1.keys) (hw : Wf c.1) : SeesC w (some ⟨b, 0, none⟩) [c] := by
  obtain ⟨h0, h1, h2, h3, h4, h5, h6⟩ := h
  intro j hj
  have : j = 0 := by have h1 : j < 1 := hj; omega
  subst this
  exact ⟨b, 0, rfl, h0, h1, h2, h3, h4, h5, h6, hk, hw⟩
theorem box_at (c : Cm) (w : World) : CmdAt (w.alloc (.cells #[.int .u32 (c.1.client : Int), .int .u32 (c.1.seq : Int), .int .u8 (c.1.kind : Int), .slice c.2.1 c.1.keys.length c.2.2, .string c.1.old, .string c.1.fresh, .int .i64 c.1.n] 36)) w.heap.size c := by
  have hb := heap_alloc_new w (.cells #[.int .u32 (c.1.client : Int), .int .u32 (c.1.seq : Int), .int .u8 (c.1.kind : Int), .slice c.2.1 c.1.keys.length c.2.2, .string c.1.old, .string c.1.fresh, .int .i64 c.1.n] 36)
  exact ⟨cell_of_block hb, cell_of_block hb, cell_of_block hb, cell_of_block hb, cell_of_block hb, cell_of_block hb, cell_of_block hb⟩

set_option maxRecDepth 100000 in
set_option maxHeartbeats 4000000 in
theorem cmdTakes_any (c : Cm) (mo : Option Addr) (ml mc : Nat) (more : List UInt8) (w : World) (hw : Wf c.1) (hk : SeesT w c.2.1 c.1.keys) (hml : more.length = ml) (hmm : ml ≤ 9223372036854775807) (hs : Sees w mo more) (ht : Cnt w) :
    Calls Tryd.prog 4 #[cmdV c, .slice mo ml mc] w fun e w' => e = .returned (.bool true) ∧ Mod [] w w' := by
  obtain ⟨⟨client, seq, kind, keys, old, fresh, n⟩, kao, kcap⟩ := c
  subst hml
  obtain ⟨w1, hw1, A1, m1⟩ : ∃ w1, w.alloc (.cells #[.int .u32 (client : Int), .int .u32 (seq : Int), .int .u8 (kind : Int), .slice kao keys.length kcap, .string old, .string fresh, .int .i64 n] 36) = w1 ∧ CmdAt w1 w.heap.size (⟨client, seq, kind, keys, old, fresh, n⟩, kao, kcap) ∧ Mod [] w w1 :=
    ⟨_, rfl, box_at (⟨client, seq, kind, keys, old, fresh, n⟩, kao, kcap) w, Mod.alloc _ _ _⟩
  obtain ⟨w2, hw2, B2, m2⟩ : ∃ w2, w1.alloc (.cells #[.int .u32 (client : Int), .int .u32 (seq : Int), .int .u8 (kind : Int), .slice kao keys.length kcap, .string old, .string fresh, .int .i64 n] 36) = w2 ∧ CmdAt w2 w1.heap.size (⟨client, seq, kind, keys, old, fresh, n⟩, kao, kcap) ∧ Mod [] w1 w2 :=
    ⟨_, rfl, box_at (⟨client, seq, kind, keys, old, fresh, n⟩, kao, kcap) w1, Mod.alloc _ _ _⟩
  have HG := Lib.hid (great_any (some ⟨w1.heap.size, 0, none⟩) 1 1 [((⟨client, seq, kind, keys, old, fresh, n⟩ : Cd), kao, kcap)] w2 rfl (B2.sees ((hk.mod0 m1).mod0 m2) hw) (by omega))
  have HA := Lib.hid (A1.mod0 m2)
  have M2 := Lib.hid (m1.trans' m2)
  have HK := Lib.hid hk
  have HT := Lib.hid ht
  have HS := Lib.hid hs
  obtain ⟨p0, p1, p2, p3, p4, p5, p6⟩ := A1
  dsimp only at p0 p1 p2 p3 p4 p5 p6
  show Calls Tryd.prog 4 #[.agg #[.int .u32 (client : Int), .int .u32 (seq : Int), .int .u8 (kind : Int), .slice kao keys.length kcap, .string old, .string fresh, .int .i64 n], .slice mo more.length mc] w fun e w' => e = .returned (.bool true) ∧ Mod [] w w'
  have HW := Lib.hid hw
  clear hk hs ht B2 m1 m2 hw
  go_enter Tryd.func4, Tryd.ntmps4
  go_wp2_with fail
  refine HG.out.mono ?_
  rintro e w3 ⟨gb, rfl, m3, hgr⟩
  have M3 := Lib.hid (M2.out.trans' m3)
  have A3 := Lib.hid (HA.out.mod0 m3)
  have HWK := Lib.hid (wakes08_any w3 (HT.out.mod0 M3.out))
  clear m3 HG HA hw1 hw2 p0 p1 p2 p3 p4 p5 p6
  cases gb
  case true =>
    clear hgr
    go_wp2_with fail
    refine HWK.out.mono ?_
    rintro e w4 ⟨rfl, m4⟩
    have M4 := Lib.hid (M3.out.trans' m4)
    clear m4
    go_wp2_with fail
    go_ret
    exact ⟨rfl, M4.out⟩
  have HSM : Hid (Small ⟨client, seq, kind, keys, old, fresh, n⟩) := Lib.hid ((hgr rfl).2 _ (List.mem_singleton.2 rfl))
  clear hgr
  by_cases hm : 1000 < more.length
  · have D : decide ((1000 : Int) < (more.length : Int)) = true := decide_eq_true (by omega)
    go_wp2_with fail
    refine HWK.out.mono ?_
    rintro e w4 ⟨rfl, m4⟩
    have M4 := Lib.hid (M3.out.trans' m4)
    clear m4
    go_wp2_with fail
    go_ret
    exact ⟨rfl, M4.out⟩
  have D : decide ((1000 : Int) < (more.length : Int)) = false := decide_eq_false (by omega)
  obtain ⟨p0, p1, p2, p3, p4, p5, p6⟩ := A3.out
  dsimp only at p0 p1 p2 p3 p4 p5 p6
  have HMY := Lib.hid (may_any (⟨client, seq, kind, keys, old, fresh, n⟩, kao, kcap) w3 HW.out (HK.out.mod0 M3.out))
  clear HWK
  go_wp2_with fail
  refine HMY.out.mono ?_
  rintro e w4 ⟨rfl, m4⟩
  have M4 := Lib.hid (M3.out.trans' m4)
  have A4 := Lib.hid (A3.out.mod0 m4)
  have HWK := Lib.hid (wakes08_any w4 (HT.out.mod0 M4.out))
  clear m4 HMY A3 p0 p1 p2 p3 p4 p5 p6 M3
  by_cases hmay : May ⟨client, seq, kind, keys, old, fresh, n⟩
  case neg =>
    rw [decide_eq_false hmay]
    clear hmay
    go_wp2_with fail
    refine HWK.out.mono ?_
    rintro e w5 ⟨rfl, m5⟩
    have M5 := Lib.hid (M4.out.trans' m5)
    clear m5
    go_wp2_with fail
    go_ret
    exact ⟨rfl, M5.out⟩
  rw [decide_eq_true hmay]
  have HY := Lib.hid hmay
  clear hmay HWK
  obtain ⟨p0, p1, p2, p3, p4, p5, p6⟩ := A4.out
  dsimp only at p0 p1 p2 p3 p4 p5 p6
  have HPT := Lib.hid (put_any none 0 0 [] (⟨client, seq, kind, keys, old, fresh, n⟩, kao, kcap) w4 rfl (OwnB.nil _) (by omega) HW.out HSM.out (HK.out.mod0 M4.out) (fun _ j _ h => absurd h List.not_mem_nil))
  have hln := oneB_len _ HSM.out
  go_wp2_with fail
  refine HPT.out.mono ?_
  rintro e w5 ⟨a5, k5, c5, rfl, hk5, o5, m5, n5⟩
  rw [List.nil_append] at hk5 o5
  have O5 := Lib.hid o5
  have M5 := Lib.hid (M4.out.trans' m5)
  have A5 := Lib.hid (A4.out.mod0 m5)
  have HS5 := Lib.hid (HS.out.mod0 M5.out)
  have HL5 := Lib.hid hk5
  have hb5 : k5 ≤ 60000 := by rw [← hk5]; exact hln
  have N5 : Hid (∀ j, j ∈ blk a5 → w4.heap.size ≤ j) := Lib.hid (fun j hj => (n5.blk j hj).resolve_left List.not_mem_nil)
  clear hk5 o5 m5 n5 HPT p0 p1 p2 p3 p4 p5 p6
  go_wp2_with (first | (at_builtin; refine wpl_app8 (dst := some 25) _ _ a5 k5 c5 _ rfl HL5.out O5.out mo more.length mc more rfl rfl HS5.out (by omega) ?_; intro a6 c6 w6 o6 m6 n6; have O6 := Lib.hid o6; have HL6 := Lib.hid (show (oneB ⟨client, seq, kind, keys, old, fresh, n⟩ ++ more).length = k5 + more.length by rw [List.length_append, HL5.out]); have M6 := Lib.hid (m6); have N6 := Lib.hid n6; clear o6 m6 n6) | fail)
  have hlt4 : w.heap.size < w4.heap.size := World.block_lt_of_cell? w4 _ A4.out.1
  have A6 := Lib.hid (A5.out.mod M6.out (fun h => by have := N5.out _ h; omega))
  have MM6 : Hid (Mod [] w w6) := Lib.hid (M5.out.trans M6.out (fun j hj hl => by have := N5.out j hj; omega))
  have HNR := Lib.hid (newReader_any a6 _ c6 _ 64 w6 HL6.out (by rw [← HL6.out]; exact Own.le O6.out) (by have := Own.cap_le O6.out; unfold maxLen at this; omega) O6.out.sees)
  have hlt6 := MM6.out.size
  have HBL := Lib.hid (O6.out.sees.ltOf)
  clear M5 A5 A4 HS5 HL5 N5 N6 M6 O5 hb5 hln
  go_wp2_with fail
  refine HNR.out.mono ?_
  rintro e w7 ⟨g, rfl, r7, m7, hg7⟩
  obtain ⟨bs, hbs⟩ : ∃ x, blkOf a6 (oneB ⟨client, seq, kind, keys, old, fresh, n⟩ ++ more) = x := ⟨_, rfl⟩
  rw [hbs] at r7 HBL
  have HB7 : Hid (∀ k, k ∈ bs → k < w7.heap.size) := Lib.hid (fun k hk => Nat.lt_of_lt_of_le (HBL.out k hk) m7.size)
  have HB6 := Lib.hid HBL.out
  have HTK := Lib.hid (takeV_any g bs 0 _ w7 r7 HB7.out)
  rw [takeR_write _ HY.out HW.out more] at HTK
  have hg : g < w7.heap.size := r7.lt
  have M7 := Lib.hid (MM6.out.trans' m7)
  have A7 := Lib.hid (A6.out.mod0 m7)
  have hgw : w.heap.size < g := by
    have := World.block_lt_of_cell? w6 _ A6.out.1
    have h2 : w.heap.size < w6.heap.size := this
    omega
  clear r7 m7 HNR hbs A6 O6 HL6 MM6 HBL
  go_wp2_with fail
  refine HTK.out.mono ?_
  rintro e w8 ⟨xo, xc, rfl, r8, s8, m8, n8⟩
  unfold cmdV
  dsimp only at r8 s8 ⊢
  have A8 := Lib.hid (A7.out.mod m8 (by simp; omega))
  have M8 : Hid (Mod [] w w8) := Lib.hid (M7.out.trans m8 (by simp; omega))
  obtain ⟨w9, hw9, X9, m9⟩ : ∃ w9, w8.alloc (.cells #[.int .u32 (client : Int), .int .u32 (seq : Int), .int .u8 (kind : Int), .slice xo keys.length xc, .string old, .string fresh, .int .i64 n] 36) = w9 ∧ CmdAt w9 w8.heap.size (⟨client, seq, kind, keys, old, fresh, n⟩, xo, xc) ∧ Mod [] w8 w9 :=
    ⟨_, rfl, box_at (⟨client, seq, kind, keys, old, fresh, n⟩, xo, xc) w8, Mod.alloc _ _ _⟩
  have A9 := Lib.hid (A8.out.mod0 m9)
  have M9 := Lib.hid (M8.out.trans' m9)
  have R9 := Lib.hid (r8.mod m9 List.not_mem_nil (fun _ _ => List.not_mem_nil))
  have HSA := Lib.hid (sameRef_any (⟨client, seq, kind, keys, old, fresh, n⟩, xo, xc) (⟨client, seq, kind, keys, old, fresh, n⟩, kao, kcap) w9 HW.out HW.out (s8.mod0 m9) (HK.out.mod0 M9.out))
  rw [decide_eq_true ((same_iff (⟨client, seq, kind, keys, old, fresh, n⟩ : Cd) ⟨client, seq, kind, keys, old, fresh, n⟩).2 rfl)] at HSA
  obtain ⟨p0, p1, p2, p3, p4, p5, p6⟩ := A9.out
  obtain ⟨x0, x1, x2, x3, x4, x5, x6⟩ := X9
  dsimp only at p0 p1 p2 p3 p4 p5 p6 x0 x1 x2 x3 x4 x5 x6
  clear r8 s8 m8 n8 m9 A7 M7 HTK A8 M8
  go_wp2_with fail
  refine HSA.out.mono ?_
  rintro e w10 ⟨rfl, m10⟩
  have M10 := Lib.hid (M9.out.trans' m10)
  have R10 := Lib.hid (R9.out.mod m10 List.not_mem_nil (fun _ _ => List.not_mem_nil))
  have HER := Lib.hid (err_any g bs 0 more 64 w10 R10.out)
  have hsz10 := M10.out.size
  have hg10 : g < w10.heap.size := R10.out.lt
  clear m10 p0 p1 p2 p3 p4 p5 p6 x0 x1 x2 x3 x4 x5 x6 hw9 A9 M9 R9 HSA
  go_wp2_with fail
  refine HER.out.mono ?_
  rintro e w11 ⟨rfl, rfl⟩
  go_wp2_with fail
  clear HER HK HW HSM HY M2 M4 hlt4 hlt6 HB7 HB6
  go_loopw [7] (fun i wr => ∃ k : Nat, k ≤ more.length ∧ i = .int .i64 (k : Int) ∧ Rd wr g bs 0 (more.drop k) 64 ∧ Mod [g] w11 wr) (fun i _ => more.length - (intOf i).toNat)
  case atStart => exact ⟨0, Nat.zero_le _, rfl, R10.out, Mod.refl _ _⟩
  case round =>
    obtain ⟨k, hk, rfl, hr, hmd⟩ := hrel
    have R := Lib.hid hr
    have MR := Lib.hid hmd
    have MW : Hid (Mod [] w wr) := Lib.hid (M10.out.trans hmd (by simp; omega))
    clear hr hmd R10
    by_cases hlt : k < more.length
    · have hd : more.drop k = more[k] :: more.drop (k + 1) := List.drop_eq_getElem_cons hlt
      obtain ⟨b, off, rfl, p0⟩ := HS.out k hlt
      have hbl : b < w.heap.size := World.block_lt_of_cell? w _ p0
      obtain ⟨x, hx⟩ : ∃ x, more[k] = x := ⟨_, rfl⟩
      rw [hx] at hd p0
      rw [hd] at R
      have P0 := Lib.hid (MW.out.cell p0 List.not_mem_nil)
      have hbg : b ≠ g := by omega
      clear hd p0 hx
      go_upto_region 10 with (fail)
      refine rest_start [g] 7 #[false, false, false, false, false, false, false] rfl (by kernel_rfl) (by kernel_rfl) ?_
      intro w12 m12
      have P1 := Lib.hid (m12.cell P0.out List.not_mem_nil)
      have HBY := Lib.hid (byte_any g bs 0 (x :: more.drop (k + 1)) 64 w12 (R.out.mod m12 List.not_mem_nil (fun _ _ => List.not_mem_nil)))
      rw [show byteR 0 (x :: more.drop (k + 1)) = (((x.toNat : Nat) : Int), 0, more.drop (k + 1)) from rfl] at HBY
      have M12 := Lib.hid (MR.out.trans0 m12)
      clear m12 P0
      refine rest_got (i := 0) (v := ?v1) rfl (by kernel_rfl) (by kernel_rfl) (by kernel_rfl) (fun _ _ _ h => h) (by rfl) ?y1 ?r1
      case y1 => (intro w9q hSwq; clear hSwq; go_simp; with_reducible rfl)
      try simp only [Act.put, List.setIfInBounds_toArray, List.set_cons_zero, List.set_cons_succ]
      refine rest_got (i := 2) (v := ?v2) rfl (by kernel_rfl) (by kernel_rfl) (by kernel_rfl) (fun _ _ _ h => h) (by rfl) ?y2 ?r2
      case y2 => (intro w9q hSwq; clear hSwq; go_simp; with_reducible rfl)
      try simp only [Act.put, List.setIfInBounds_toArray, List.set_cons_zero, List.set_cons_succ]
      refine rest_got (i := 3) (v := ?v3) rfl (by kernel_rfl) (by kernel_rfl) (by kernel_rfl) (fun _ _ _ h => h) (by rfl) ?y3 ?r3
      case y3 => (intro w9q hSwq; clear hSwq; go_simp; with_reducible rfl)
      try simp only [Act.put, List.setIfInBounds_toArray, List.set_cons_zero, List.set_cons_succ]
      refine rest_got (i := 4) (v := ?v4) rfl (by kernel_rfl) (by kernel_rfl) (by kernel_rfl) (fun _ _ _ h => h) (by rfl) ?y4 ?r4
      case y4 => (intro w9q hSwq; clear hSwq; go_simp; with_reducible rfl)
      try simp only [Act.put, List.setIfInBounds_toArray, List.set_cons_zero, List.set_cons_succ]
      refine rest_got (i := 5) (v := ?v5) rfl (by kernel_rfl) (by kernel_rfl) (by kernel_rfl) (fun _ _ _ h => h) (by rfl) ?y5 ?r5
      case y5 => ((intro w9' hm9'; have hc9' := Mod.cell hm9' P1.out (by first | exact List.not_mem_nil | assumption | (simp; done) | (simp; omega)); clear hm9'; go_simp; with_reducible rfl))
      try simp only [Act.put, List.setIfInBounds_toArray, List.set_cons_zero, List.set_cons_succ]
      refine rest_one (i := 1) (by kernel_rfl) rfl (by rfl) ?_
      go_wp2_with fail
      refine HBY.out.mono ?_
      rintro e w13 ⟨rfl, r13, m13⟩
      have R13 := Lib.hid r13
      have M13 := Lib.hid (M12.out.trans' m13)
      go_wp2_with fail
      refine back_to (K1 := [g]) m13 (fun _ h _ => h) ?_
      clear r13 m13 HBY M12 R MR MW P1
      refine rest_got (i := 6) (v := ?v6) rfl (by kernel_rfl) (by kernel_rfl) (by kernel_rfl) (fun _ _ _ h => h) (by rfl) ?y6 ?r6
      case y6 => (intro w9q hSwq; clear hSwq; go_simp; with_reducible rfl)
      try simp only [Act.put, List.setIfInBounds_toArray, List.set_cons_zero, List.set_cons_succ]
      refine rest_done (by kernel_rfl) ?_ _
      go_wp2_with fail
      go_roundw
      case rel => exact ⟨k + 1, by omega, by go_num, R13.out, M13.out⟩
      case measure => simp [intOf]; omega
    · have hke : k = more.length := by omega
      subst hke
      rw [List.drop_length] at R
      have HDN := Lib.hid (rdone_any g bs 0 [] 64 wr R.out)
      rw [show doneR 0 [] = 0 from rfl] at HDN
      go_wp2_with fail
      refine HDN.out.mono ?_
      rintro e w12 ⟨rfl, r12, m12⟩
      have M12 : Hid (Mod [] w w12) := Lib.hid (MW.out.trans m12 (by simp; omega))
      have HWK := Lib.hid (wakes08_any w12 (HT.out.mod0 M12.out))
      clear r12 m12 HDN
      go_wp2_with fail
      refine HWK.out.mono ?_
      rintro e w13 ⟨rfl, m13⟩
      have M13 := Lib.hid (M12.out.trans' m13)
      clear m13
      go_wp2_with fail
      go_ret
      exact ⟨rfl, M13.out⟩
end Go.Proofs.YtaagfoeedngdjaaDoor
