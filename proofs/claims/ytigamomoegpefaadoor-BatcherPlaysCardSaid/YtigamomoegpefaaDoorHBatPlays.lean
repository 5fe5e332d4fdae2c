/- The walks of Great and of the law BatcherPlays. -/
import Derived.Test.YtigamomoegpefaaDoorHBatDoes2
import Derived.Test.YtigamomoegpefaaDoorZ7
namespace Go.Proofs.YtigamomoegpefaaDoor
open Go Go.RowKit Go.Lib

/-- The beginning of a region that draws its order: no block is new behind the first draw. -/
theorem rest_startS {P : Program} {ops : Array Oper} {Q : Exit → Act → World → Prop} {id : Nat} {a : Act} {w : World} (K : List Nat) (n : Nat) (L : Array Bool) (hn : ops.size = n) (hL : Array.replicate n false = L) (hm : P.follows .mixedOrders = true)
    (h : ∀ w1, Mod [] w w1 → w1.heap.size = w.heap.size → Rest P .any ops Q K n L a w1) : (Code.region id ops true).wp P Q a w := by
  subst hn hL
  exact wp_region_held hm (h w.drew (Mod.drew _ _) rfl)
set_option maxRecDepth 100000 in
set_option maxHeartbeats 8000000 in
theorem batcherPlays_any (cn wi ba ag sn : Int) (ao : Option Addr) (len cap : Nat) (l : List Ab) (w : World) (hl : l.length = len) (hlen : len ≤ 9223372036854775807) (hs : SeesA w ao l) (ht : Cnt w) :
    Calls Tryd.prog 4 #[.agg #[.int .i64 cn, .int .i64 wi, .int .i64 ba, .int .i64 ag, .int .i64 sn], .slice ao len cap] w fun e w' => e = .returned (.bool true) ∧ Mod [] w w' := by
  subst hl
  have hbx := heap_alloc_new w (.cells #[.int .i64 cn, .int .i64 wi, .int .i64 ba, .int .i64 ag, .int .i64 sn] 23)
  have m1 := Mod.alloc [] w (.cells #[.int .i64 cn, .int .i64 wi, .int .i64 ba, .int .i64 ag, .int .i64 sn] 23)
  obtain ⟨w1, hw1⟩ : ∃ x, w.alloc (.cells #[.int .i64 cn, .int .i64 wi, .int .i64 ba, .int .i64 ag, .int .i64 sn] 23) = x := ⟨_, rfl⟩
  rw [hw1] at hbx m1
  have HS := Lib.hid hs
  have HT := Lib.hid ht
  have HG := Lib.hid (great19_any ao l.length cap l w1 rfl (hs.mod0 m1) hlen)
  have HBX := Lib.hid hbx
  have M1 := Lib.hid m1
  clear hs ht hbx m1
  go_enter Tryd.func4, Tryd.ntmps4
  go_wp2_with fail
  refine HG.out.mono ?_
  rintro e w2 ⟨gb, rfl, m2, hgr⟩
  have M2 := Lib.hid (M1.out.trans' m2)
  have HBX2 := Lib.hid (m2.get HBX.out List.not_mem_nil)
  have HWK := Lib.hid (wakes19_any w2 (HT.out.mod0 M2.out))
  clear m2 HG HBX M1 hw1
  cases gb
  case true =>
    clear hgr
    go_wp2_with fail
    refine HWK.out.mono ?_
    rintro e w3 ⟨rfl, m3⟩
    have M3 := Lib.hid (M2.out.trans' m3)
    clear m3
    go_wp2_with fail
    go_ret
    exact ⟨rfl, M3.out⟩
  have h200 := hgr rfl
  clear hgr HWK
  have c0 := cell_of_block (i := 0) HBX2.out
  have c1 := cell_of_block (i := 1) HBX2.out
  have c2 := cell_of_block (i := 2) HBX2.out
  have c3 := cell_of_block (i := 3) HBX2.out
  have c4 := cell_of_block (i := 4) HBX2.out
  by_cases hcf : CfgOk ba ag
  case neg =>
    have HN := Lib.hid (bnew_bad cn wi ba ag sn w2 hcf)
    have HNC := Lib.hid hcf
    clear hcf
    go_wp2_with fail
    refine HN.out.mono ?_
    rintro e w3 ⟨rfl, m3⟩
    have M3 := Lib.hid (M2.out.trans' m3)
    have HBX3 := Lib.hid (m3.get HBX2.out List.not_mem_nil)
    have c0 := cell_of_block (i := 0) HBX3.out
    have c1 := cell_of_block (i := 1) HBX3.out
    have c2 := cell_of_block (i := 2) HBX3.out
    have c3 := cell_of_block (i := 3) HBX3.out
    have c4 := cell_of_block (i := 4) HBX3.out
    have HMY := Lib.hid (may19_any cn wi ba ag sn w3)
    rw [decide_eq_false HNC.out] at HMY
    clear m3 HN HBX2 M2 HNC
    go_wp2_with fail
    refine HMY.out.mono ?_
    rintro e w4 ⟨rfl, m4⟩
    have M4 := Lib.hid (M3.out.trans' m4)
    have HWK := Lib.hid (wakes19_any w4 (HT.out.mod0 M4.out))
    clear m4 HMY M3 HBX3 c0 c1 c2 c3 c4
    go_wp2_with fail
    refine HWK.out.mono ?_
    rintro e w5 ⟨rfl, m5⟩
    have M5 := Lib.hid (M4.out.trans' m5)
    clear m5
    go_wp2_with fail
    go_ret
    exact ⟨rfl, M5.out⟩
  have HN := Lib.hid (bnew_ok cn wi ba ag sn w2 hcf)
  have HCF := Lib.hid hcf
  clear hcf
  go_wp2_with fail
  refine HN.out.mono ?_
  rintro e w3 ⟨b, F, rfl, b3, m3, n3⟩
  have M3 := Lib.hid (M2.out.trans' m3)
  have HBX3 := Lib.hid (m3.get HBX2.out List.not_mem_nil)
  have c0 := cell_of_block (i := 0) HBX3.out
  have c1 := cell_of_block (i := 1) HBX3.out
  have c2 := cell_of_block (i := 2) HBX3.out
  have c3 := cell_of_block (i := 3) HBX3.out
  have c4 := cell_of_block (i := 4) HBX3.out
  have B3 := Lib.hid b3
  have N3 : Hid (∀ k, k ∈ F → w.heap.size ≤ k) := Lib.hid (fun k hk => Nat.le_trans M2.out.size (n3 k hk))
  have HMY := Lib.hid (may19_any cn wi ba ag sn w3)
  rw [decide_eq_true HCF.out] at HMY
  clear b3 m3 n3 HN HBX2 M2
  go_wp2_with fail
  refine HMY.out.mono ?_
  rintro e w4 ⟨rfl, m4⟩
  have M4 := Lib.hid (M3.out.trans' m4)
  have HBX4 := Lib.hid (m4.get HBX3.out List.not_mem_nil)
  have B4 := Lib.hid (B3.out.mod0 m4)
  have c0 := cell_of_block (i := 0) HBX4.out
  have c1 := cell_of_block (i := 1) HBX4.out
  have c2 := cell_of_block (i := 2) HBX4.out
  have c3 := cell_of_block (i := 3) HBX4.out
  have c4 := cell_of_block (i := 4) HBX4.out
  clear m4 HMY M3 HBX3 B3
  have hbg := heap_alloc_new w4 (.cells #[.int .i64 ba, .int .i64 ag, .int .i64 0, .slice none 0 0] 49)
  have m5 := Mod.alloc [] w4 (.cells #[.int .i64 ba, .int .i64 ag, .int .i64 0, .slice none 0 0] 49)
  obtain ⟨w5, hw5⟩ : ∃ x, w4.alloc (.cells #[.int .i64 ba, .int .i64 ag, .int .i64 0, .slice none 0 0] 49) = x := ⟨_, rfl⟩
  rw [hw5] at hbg m5
  have P5 : Hid (PlS w 0 w5 b F w4.heap.size none 0 [] ba ag 0 0 0 (rL [])) := Lib.hid ⟨B4.out.mod0 m5, ⟨hbg, Own.nil0 _ _ _, by simp [blk], fun x hx => absurd hx (by simp)⟩, M4.out.trans' m5, N3.out, M4.out.size, fun k hk => absurd hk (by simp [blk]), fun k hk hg => by
    simp only [blk, List.mem_cons, List.not_mem_nil, or_false] at hg
    have := B4.out.lt k hk; omega, Nat.zero_le _⟩
  clear hbg m5 B4 M4 N3 HBX4
  obtain ⟨g, hg⟩ : ∃ x, w4.heap.size = x := ⟨_, rfl⟩
  rw [hg] at P5
  obtain ⟨bn, rfl⟩ : ∃ bn : Nat, ba = (bn : Int) := ⟨ba.toNat, by have := HCF.out.1; omega⟩
  have hbn : bn ≤ 8 := by have := HCF.out.2.1; omega
  have hag : 0 ≤ ag ∧ ag ≤ 8 := by have := HCF.out.2.2; omega
  go_wp2_with fail
  clear hw5 c0 c1 c2 c3 c4
  go_loopw [8] (fun i wr => ∃ (j : Nat) (F' : List Nat) (la : Option Addr) (lc : Nat) (l' : List Wt) (ord now : Int), i = .int .i64 (j : Int) ∧ j ≤ l.length ∧ PlS w 0 wr b F' g la lc l' (bn : Int) ag now now ord (rL l') ∧ 0 ≤ now ∧ now ≤ (j : Int) ∧ 0 ≤ ord ∧ ord ≤ 100 * (j : Int)) (fun i _ => l.length - (intOf i).toNat)
  case atStart => exact ⟨0, F, none, 0, [], 0, 0, rfl, by omega, P5.out, by omega, by omega, by omega, by omega⟩
  case round =>
    obtain ⟨j, F', la, lc, l', ord, now, rfl, hj, hp, n1, n2, o1, o2⟩ := hrel
    have P := Lib.hid hp
    clear hp P5
    by_cases hjl : j < l.length
    case neg =>
      have hje : j = l.length := by omega
      subst hje
      have HWK := Lib.hid (wakes19_any wr (HT.out.mod0 P.out.mod))
      go_wp2_with fail
      refine HWK.out.mono ?_
      rintro e w6 ⟨rfl, m6⟩
      have M6 := Lib.hid (P.out.mod.trans' m6)
      clear m6
      go_wp2_with fail
      go_ret
      exact ⟨rfl, M6.out⟩
    obtain ⟨ab, off, rfl, ha⟩ := HS.out.act hjl
    obtain ⟨_, _, -, -, hk0, hw0⟩ := HS.out j hjl
    obtain ⟨⟨d, N, c⟩, hx⟩ : ∃ x, l[j] = x := ⟨_, rfl⟩
    rw [hx] at ha hk0 hw0
    dsimp only at ha hk0 hw0
    have HA := Lib.hid ha
    have HK := Lib.hid hk0
    have HW := Lib.hid hw0
    have hjl2 : (j : Int) < (l.length : Int) := by omega
    clear hx ha hk0 hw0
    go_upto_region 12 with (fail)
    refine rest_startS (since w wr) 25 #[false, false, false, false, false, false, false, false, false, false, false, false, false, false, false, false, false, false, false, false, false, false, false, false, false] rfl (by kernel_rfl) (by kernel_rfl) ?_
    intro w6 m6 z6
    have P6 := Lib.hid (P.out.still m6)
    have SE6 : Hid (∀ w', Mod (since w wr) w6 w' → Mod [] w w') := Lib.hid (fun w' m => P6.out.mod.trans m (fun k hk hl => by have := since_new hk; omega))
    have LA : Hid (∀ w', Mod (since w wr) w6 w' → _) := Lib.hid (fun w' m => HA.out w' (SE6.out w' m))
    have HD := Lib.hid (does_any d N c w w6.heap.size w6 b F' g la lc l' bn ag now ord P6.out.here hbn (by omega) hag (by omega) HW.out HK.out HT.out)
    have MW6 := Lib.hid m6
    have Z6 := Lib.hid z6
    clear m6 z6
    refine rest_got (i := 0) (v := ?v1) rfl (by kernel_rfl) (by kernel_rfl) (by kernel_rfl) (fun _ _ _ h => h) (by rfl) ?y1 ?r1
    case y1 => (intro w9q hSwq; clear hSwq; go_simp; with_reducible rfl)
    try simp only [Act.put, List.setIfInBounds_toArray, List.set_cons_zero, List.set_cons_succ]
    refine rest_got (i := 1) (v := ?v2) rfl (by kernel_rfl) (by kernel_rfl) (by kernel_rfl) (fun _ _ _ h => h) (by rfl) ?y2 ?r2
    case y2 => (intro w9q hSwq; clear hSwq; go_simp; with_reducible rfl)
    try simp only [Act.put, List.setIfInBounds_toArray, List.set_cons_zero, List.set_cons_succ]
    refine rest_got (i := 2) (v := ?v3) rfl (by kernel_rfl) (by kernel_rfl) (by kernel_rfl) (fun _ _ _ h => h) (by rfl) ?y3 ?r3
    case y3 => (intro w9q hSwq; clear hSwq; go_simp; with_reducible rfl)
    try simp only [Act.put, List.setIfInBounds_toArray, List.set_cons_zero, List.set_cons_succ]
    refine rest_got (i := 3) (v := ?v4) rfl (by kernel_rfl) (by kernel_rfl) (by kernel_rfl) (fun _ _ _ h => h) (by rfl) ?y4 ?r4
    case y4 => (intro w9q hSwq; clear hSwq; go_simp; with_reducible rfl)
    try simp only [Act.put, List.setIfInBounds_toArray, List.set_cons_zero, List.set_cons_succ]
    refine rest_got (i := 4) (v := ?v5) rfl (by kernel_rfl) (by kernel_rfl) (by kernel_rfl) (fun _ _ _ h => h) (by rfl) ?y5 ?r5
    case y5 => (intro w9q hSwq; clear hSwq; go_simp; with_reducible rfl)
    try simp only [Act.put, List.setIfInBounds_toArray, List.set_cons_zero, List.set_cons_succ]
    refine rest_got (i := 5) (v := ?v6) rfl (by kernel_rfl) (by kernel_rfl) (by kernel_rfl) (fun _ _ _ h => h) (by rfl) ?y6 ?r6
    case y6 => ((intro w9' hm9'; obtain ⟨hc0', hc1', hc2', hc3', hc4', hc5', hc6', hc7', hc8'⟩ := LA.out w9' hm9'; clear hm9'; go_simp; with_reducible rfl))
    try simp only [Act.put, List.setIfInBounds_toArray, List.set_cons_zero, List.set_cons_succ]
    refine rest_one (i := 6) (by kernel_rfl) rfl (by rfl) ?_
    go_wp2_with fail
    refine HD.out.mono ?_
    rintro e w7 ⟨rfl, F7, la7, lc7, l7, ord7, now7, p7, a1, a2, a3, a4⟩
    have P7 : Hid (PlS w 0 w7 b F7 g la7 lc7 l7 (bn : Int) ag now7 now7 ord7 (rL l7)) := Lib.hid ⟨p7.bat, p7.ref, p7.mod, p7.fnew, p7.gnew, p7.lnew, p7.dis, Nat.zero_le _⟩
    have M67 : Mod (since w wr) w6 w7 := by
      have h1 := mod_since P.out.mod P7.out.mod (by rw [← Z6.out]; exact p7.sz)
      exact ⟨by rw [h1.os, MW6.out.os], by rw [h1.tape, MW6.out.tape], by rw [h1.output, MW6.out.output], p7.sz, fun k hk hn => by
        have hkr : k < wr.heap.size := by rw [← Z6.out]; exact hk
        rw [h1.block k hkr hn, MW6.out.block k hkr List.not_mem_nil]⟩
    go_wp2_with fail
    refine back_to (K1 := []) M67 (by simp) ?_
    have HLN := Lib.hid (blen_any b F7 (bn : Int) ag now7 ord7 (rL l7) w7 P7.out.bat)
    obtain ⟨m, hm⟩ : ∃ m, (rL l7).length = m := ⟨_, rfl⟩
    have hm2 : l7.length = m := by rw [← rL_length]; exact hm
    have hm64 : m ≤ 64 := by rw [← hm]; exact P7.out.bat.len
    rw [hm] at HLN
    have c3 := cell_of_block (i := 3) P7.out.ref.blk
    rw [hm2] at c3
    have HM2 := Lib.hid hm2
    have mm : ((m : Int) != (m : Int)) = false := by simp
    clear p7 M67 HD LA SE6 P6 MW6 Z6 P hm hm2
    refine rest_got (i := 7) (v := ?v7) rfl (by kernel_rfl) (by kernel_rfl) (by kernel_rfl) (fun _ _ _ h => h) (by rfl) ?y7 ?r7
    case y7 => (intro w9q hSwq; clear hSwq; go_simp; with_reducible rfl)
    try simp only [Act.put, List.setIfInBounds_toArray, List.set_cons_zero, List.set_cons_succ]
    refine rest_got (i := 8) (v := ?v8) rfl (by kernel_rfl) (by kernel_rfl) (by kernel_rfl) (fun _ _ _ h => h) (by rfl) ?y8 ?r8
    case y8 => (intro w9q hSwq; clear hSwq; go_simp; with_reducible rfl)
    try simp only [Act.put, List.setIfInBounds_toArray, List.set_cons_zero, List.set_cons_succ]
    refine rest_got (i := 9) (v := ?v9) rfl (by kernel_rfl) (by kernel_rfl) (by kernel_rfl) (fun _ _ _ h => h) (by rfl) ?y9 ?r9
    case y9 => (intro w9q hSwq; clear hSwq; go_simp; with_reducible rfl)
    try simp only [Act.put, List.setIfInBounds_toArray, List.set_cons_zero, List.set_cons_succ]
    refine rest_got (i := 11) (v := ?v10) rfl (by kernel_rfl) (by kernel_rfl) (by kernel_rfl) (fun _ _ _ h => h) (by rfl) ?y10 ?r10
    case y10 => (intro w9q hSwq; clear hSwq; go_simp; with_reducible rfl)
    try simp only [Act.put, List.setIfInBounds_toArray, List.set_cons_zero, List.set_cons_succ]
    refine rest_got (i := 12) (v := ?v11) rfl (by kernel_rfl) (by kernel_rfl) (by kernel_rfl) (fun _ _ _ h => h) (by rfl) ?y11 ?r11
    case y11 => (intro w9q hSwq; clear hSwq; go_simp; with_reducible rfl)
    try simp only [Act.put, List.setIfInBounds_toArray, List.set_cons_zero, List.set_cons_succ]
    refine rest_got (i := 13) (v := ?v12) rfl (by kernel_rfl) (by kernel_rfl) (by kernel_rfl) (fun _ _ _ h => h) (by rfl) ?y12 ?r12
    case y12 => (intro w9q hSwq; clear hSwq; go_simp; with_reducible rfl)
    try simp only [Act.put, List.setIfInBounds_toArray, List.set_cons_zero, List.set_cons_succ]
    refine rest_got (i := 14) (v := ?v13) rfl (by kernel_rfl) (by kernel_rfl) (by kernel_rfl) (fun _ _ _ h => h) (by rfl) ?y13 ?r13
    case y13 => ((intro w9' hm9'; have hc9' := Mod.cell hm9' c3 (by first | exact List.not_mem_nil | assumption | (simp; done) | (simp; omega)); clear hm9'; go_simp; with_reducible rfl))
    try simp only [Act.put, List.setIfInBounds_toArray, List.set_cons_zero, List.set_cons_succ]
    refine rest_got (i := 15) (v := ?v14) rfl (by kernel_rfl) (by kernel_rfl) (by kernel_rfl) (fun _ _ _ h => h) (by rfl) ?y14 ?r14
    case y14 => (intro w9q hSwq; clear hSwq; go_simp; with_reducible rfl)
    try simp only [Act.put, List.setIfInBounds_toArray, List.set_cons_zero, List.set_cons_succ]
    refine rest_one (i := 10) (by kernel_rfl) rfl (by rfl) ?_
    go_wp2_with fail
    refine HLN.out.mono ?_
    rintro e w8 ⟨rfl, rfl⟩
    go_wp2_with fail
    refine back_to (K1 := []) (Mod.refl _ _) (by simp) ?_
    have HRB := Lib.hid (bready_any b F7 (bn : Int) ag now7 ord7 (rL l7) w8 P7.out.bat)
    obtain ⟨t, htt⟩ : ∃ t, readyB (bn : Int) now7 (rL l7) = t := ⟨_, rfl⟩
    rw [htt] at HRB
    have HTT := Lib.hid htt
    have tt : (t != t) = false := by simp
    clear HLN htt
    refine rest_got (i := 16) (v := ?v15) rfl (by kernel_rfl) (by kernel_rfl) (by kernel_rfl) (fun _ _ _ h => h) (by rfl) ?y15 ?r15
    case y15 => (intro w9q hSwq; clear hSwq; go_simp; with_reducible rfl)
    try simp only [Act.put, List.setIfInBounds_toArray, List.set_cons_zero, List.set_cons_succ]
    refine rest_got (i := 17) (v := ?v16) rfl (by kernel_rfl) (by kernel_rfl) (by kernel_rfl) (fun _ _ _ h => h) (by rfl) ?y16 ?r16
    case y16 => (intro w9q hSwq; clear hSwq; go_simp; with_reducible rfl)
    try simp only [Act.put, List.setIfInBounds_toArray, List.set_cons_zero, List.set_cons_succ]
    refine rest_got (i := 18) (v := ?v17) rfl (by kernel_rfl) (by kernel_rfl) (by kernel_rfl) (fun _ _ _ h => h) (by rfl) ?y17 ?r17
    case y17 => (intro w9q hSwq; clear hSwq; go_simp; with_reducible rfl)
    try simp only [Act.put, List.setIfInBounds_toArray, List.set_cons_zero, List.set_cons_succ]
    refine rest_got (i := 19) (v := ?v18) rfl (by kernel_rfl) (by kernel_rfl) (by kernel_rfl) (fun _ _ _ h => h) (by rfl) ?y18 ?r18
    case y18 => (intro w9q hSwq; clear hSwq; go_simp; with_reducible rfl)
    try simp only [Act.put, List.setIfInBounds_toArray, List.set_cons_zero, List.set_cons_succ]
    refine rest_got (i := 21) (v := ?v19) rfl (by kernel_rfl) (by kernel_rfl) (by kernel_rfl) (fun _ _ _ h => h) (by rfl) ?y19 ?r19
    case y19 => (intro w9q hSwq; clear hSwq; go_simp; with_reducible rfl)
    try simp only [Act.put, List.setIfInBounds_toArray, List.set_cons_zero, List.set_cons_succ]
    refine rest_one (i := 20) (by kernel_rfl) rfl (by rfl) ?_
    go_wp2_with fail
    refine HRB.out.mono ?_
    rintro e w9 ⟨rfl, m9⟩
    go_wp2_with fail
    refine back_to (K1 := []) m9 (by simp) ?_
    have P9 := Lib.hid (P7.out.still m9)
    have HRR := Lib.hid (ready19_any w g (bn : Int) ag now7 la7 lc7 l7 w9 P9.out.ref (by rw [HM2.out]; omega))
    rw [HTT.out] at HRR
    clear HRB m9 P7 c3
    
    refine rest_one (i := 22) (by kernel_rfl) rfl (by rfl) ?_
    go_wp2_with fail
    refine HRR.out.mono ?_
    rintro e w10 ⟨rfl, m10⟩
    go_wp2_with fail
    refine back_to (K1 := []) m10 (by simp) ?_
    have P10 := Lib.hid (P9.out.still m10)
    clear HRR m10 P9
    refine rest_got (i := 23) (v := ?v20) rfl (by kernel_rfl) (by kernel_rfl) (by kernel_rfl) (fun _ _ _ h => h) (by rfl) ?y20 ?r20
    case y20 => (intro w9q hSwq; clear hSwq; go_simp; with_reducible rfl)
    try simp only [Act.put, List.setIfInBounds_toArray, List.set_cons_zero, List.set_cons_succ]
    refine rest_got (i := 24) (v := ?v21) rfl (by kernel_rfl) (by kernel_rfl) (by kernel_rfl) (fun _ _ _ h => h) (by rfl) ?y21 ?r21
    case y21 => (intro w9q hSwq; clear hSwq; go_simp; with_reducible rfl)
    try simp only [Act.put, List.setIfInBounds_toArray, List.set_cons_zero, List.set_cons_succ]
    refine rest_done (by kernel_rfl) ?_ _
    go_wp2_with fail
    go_roundw
    case rel => exact ⟨j + 1, F7, la7, lc7, l7, ord7, now7, by go_num, by omega, P10.out, by omega, by omega, by omega, by omega⟩
    case measure => simp [intOf]; omega
end Go.Proofs.YtigamomoegpefaaDoor
