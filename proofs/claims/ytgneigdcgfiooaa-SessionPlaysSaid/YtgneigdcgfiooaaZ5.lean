/- Texts put together (5 of 9): Sort6. -/
import Derived.Test.YtgneigdcgfiooaaZ4
import Derived.Handy
import Derived.Deep.CutRange
import Derived.Deep.CutBlock
/- partitionEqualOrdered at uint32. -/
namespace Go.Proofs.Ytgneigdcgfiooaa
open Go Go.RowKit Go.Lib

theorem partEq_stop {a i j i2 j2 : Nat} {d : Array Nat} (h1 : Sort.scanUp (fun x => !ltN d[a]! x) d j i = i2) (h2 : Sort.scanDown (fun x => ltN d[a]! x) d i2 j = j2) (h : j2 < i2) : Sort.partEqLoop ltN a i j d = (i2, d) := by
  rw [Sort.partEqLoop]
  simp only [h1, h2]
  rw [if_pos h]
theorem partEq_go {a i j i2 j2 : Nat} {d : Array Nat} (h1 : Sort.scanUp (fun x => !ltN d[a]! x) d j i = i2) (h2 : Sort.scanDown (fun x => ltN d[a]! x) d i2 j = j2) (h : ¬ j2 < i2) (hi : i ≤ i2) (hj : j2 ≤ j) (h0 : 0 < i2) : Sort.partEqLoop ltN a i j d = Sort.partEqLoop ltN a (i2 + 1) (j2 - 1) (Sort.swp d i2 j2) := by
  rw [Sort.partEqLoop]
  simp only [h1, h2]
  rw [if_neg h, dif_pos (by omega)]
set_option maxRecDepth 100000 in
set_option maxHeartbeats 16000000 in
theorem partEq_any (g cap n a b pv : Nat) (d : Array Nat) (w : World) (hr : Row w g cap d) (hn : d.size = n) (hap : a ≤ pv) (hpb : pv < b) (hb : b ≤ n) (hd : n ≤ 1000000) :
    Calls Try.prog 42 #[.slice (some ⟨g, 0, none⟩) n cap, .int .i64 (a : Int), .int .i64 (b : Int), .int .i64 (pv : Int)] w fun e w' => e = .returned (.int .i64 ((Sort.partitionEqual ltN d a b pv).1 : Int)) ∧ Row w' g cap (Sort.partitionEqual ltN d a b pv).2 ∧ Mod [g] w w' := by
  have HRz := Lib.hid hr
  have HNz := Lib.hid hn
  obtain ⟨b1, hb1⟩ : ∃ x, b - 1 = x := ⟨_, rfl⟩
  have eb1 : (b : Int) - 1 = (b1 : Int) := by omega
  obtain ⟨a1, ha1⟩ : ∃ x, a + 1 = x := ⟨_, rfl⟩
  have ea1 : (a : Int) + 1 = (a1 : Int) := by omega
  obtain ⟨R0, hR0⟩ : ∃ x, Sort.partEqLoop ltN a a1 b1 (Sort.swp d a pv) = x := ⟨_, rfl⟩
  have hP : Sort.partitionEqual ltN d a b pv = R0 := by
    unfold Sort.partitionEqual
    rw [ha1, hb1, hR0]
  rw [hP]
  have HR0 := Lib.hid hR0
  have Ba : (a : Int) < (n : Int) := by omega
  have Bp : (pv : Int) < (n : Int) := by omega
  have hbb : b1 < n := by omega
  have hab1 : a ≤ b1 := by omega
  clear hr hn hP hR0
  go_enter Try.func42, Try.ntmps42
  obtain ⟨xiS, hxiS⟩ : ∃ x, (d)[a]! = x := ⟨_, rfl⟩
  obtain ⟨xjS, hxjS⟩ : ∃ x, (d)[pv]! = x := ⟨_, rfl⟩
  have HSIS : Hid ((d)[a]! = xiS) := Lib.hid hxiS
  have HSJS : Hid ((d)[pv]! = xjS) := Lib.hid hxjS
  have HBIS : a < (d).size := by rw [HNz.out]; omega
  have HBJS : pv < (d).size := by rw [HNz.out]; omega
  clear hxiS hxjS
  go_upto_region 1 with (fail)
  refine restu_start 13 [] [g] 16 #[false, false, false, false, false, false, false, false, false, false, false, false, false, false, false, false] rfl (by kernel_rfl) (by kernel_rfl) ?_
  intro vS nS
  have RvS := Lib.hid (HRz.out.mod0 nS)
  have CiS := Lib.hid (RvS.out.cell HBIS HSIS.out)
  have CjS := Lib.hid (RvS.out.cell HBJS HSJS.out)
  have NvS := Lib.hid nS
  clear nS
  refine restu_got (i := 0) (v := ?v1) rfl (by kernel_rfl) (by kernel_rfl) (by kernel_rfl) (by rfl) (fun _ _ _ h => h) (by rfl) ?y1 ?r1
  case y1 => (intro w9q hSwq; clear hSwq; go_simp; with_reducible rfl)
  try simp only [Act.put, List.setIfInBounds_toArray, List.set_cons_zero, List.set_cons_succ]
  refine restu_got (i := 1) (v := ?v2) rfl (by kernel_rfl) (by kernel_rfl) (by kernel_rfl) (by rfl) (fun _ _ _ h => h) (by rfl) ?y2 ?r2
  case y2 => (intro w9q hSwq; clear hSwq; go_simp; with_reducible rfl)
  try simp only [Act.put, List.setIfInBounds_toArray, List.set_cons_zero, List.set_cons_succ]
  refine restu_got (i := 2) (v := ?v3) rfl (by kernel_rfl) (by kernel_rfl) (by kernel_rfl) (by rfl) (fun _ _ _ h => h) (by rfl) ?y3 ?r3
  case y3 => (intro w9q hSwq; clear hSwq; go_simp; with_reducible rfl)
  try simp only [Act.put, List.setIfInBounds_toArray, List.set_cons_zero, List.set_cons_succ]
  refine restu_got (i := 3) (v := ?v4) rfl (by kernel_rfl) (by kernel_rfl) (by kernel_rfl) (by rfl) (fun _ _ _ h => h) (by rfl) ?y4 ?r4
  case y4 => (intro w9q hSwq; clear hSwq; go_simp; with_reducible rfl)
  try simp only [Act.put, List.setIfInBounds_toArray, List.set_cons_zero, List.set_cons_succ]
  refine restu_got (i := 4) (v := ?v5) rfl (by kernel_rfl) (by kernel_rfl) (by kernel_rfl) (by rfl) (fun _ _ _ h => h) (by rfl) ?y5 ?r5
  case y5 => (intro w9q hSwq; clear hSwq; go_simp; with_reducible rfl)
  try simp only [Act.put, List.setIfInBounds_toArray, List.set_cons_zero, List.set_cons_succ]
  refine restu_got (i := 5) (v := ?v6) rfl (by kernel_rfl) (by kernel_rfl) (by kernel_rfl) (by rfl) (fun _ _ _ h => h) (by rfl) ?y6 ?r6
  case y6 => (intro w9q hSwq; clear hSwq; go_simp; with_reducible rfl)
  try simp only [Act.put, List.setIfInBounds_toArray, List.set_cons_zero, List.set_cons_succ]
  refine restu_got (i := 6) (v := ?v7) rfl (by kernel_rfl) (by kernel_rfl) (by kernel_rfl) (by rfl) (fun _ _ _ h => h) (by rfl) ?y7 ?r7
  case y7 => (intro w9q hSwq; clear hSwq; go_simp; with_reducible rfl)
  try simp only [Act.put, List.setIfInBounds_toArray, List.set_cons_zero, List.set_cons_succ]
  refine restu_early (i := 7) [12, 13, 14, 15] (v := ?v8) rfl (by kernel_rfl) (by kernel_rfl) (by kernel_rfl) (by rfl) (by kernel_rfl) (by rfl) (by kernel_rfl) (fun _ _ _ h => h) (by rfl) ?y8 ?r8
  case y8 => ((intro w9' hm9'; have hc9' := Mod.cell hm9' CjS.out (by first | exact List.not_mem_nil | assumption | (simp; done) | (simp; omega)); clear hm9'; go_simp; with_reducible rfl))
  try simp only [Act.put, List.setIfInBounds_toArray, List.set_cons_zero, List.set_cons_succ]
  refine restu_got (i := 8) (v := ?v9) rfl (by kernel_rfl) (by kernel_rfl) (by kernel_rfl) (by rfl) (fun _ _ _ h => h) (by rfl) ?y9 ?r9
  case y9 => (intro w9q hSwq; clear hSwq; go_simp; with_reducible rfl)
  try simp only [Act.put, List.setIfInBounds_toArray, List.set_cons_zero, List.set_cons_succ]
  refine restu_got (i := 9) (v := ?v10) rfl (by kernel_rfl) (by kernel_rfl) (by kernel_rfl) (by rfl) (fun _ _ _ h => h) (by rfl) ?y10 ?r10
  case y10 => (intro w9q hSwq; clear hSwq; go_simp; with_reducible rfl)
  try simp only [Act.put, List.setIfInBounds_toArray, List.set_cons_zero, List.set_cons_succ]
  refine restu_got (i := 10) (v := ?v11) rfl (by kernel_rfl) (by kernel_rfl) (by kernel_rfl) (by rfl) (fun _ _ _ h => h) (by rfl) ?y11 ?r11
  case y11 => (intro w9q hSwq; clear hSwq; go_simp; with_reducible rfl)
  try simp only [Act.put, List.setIfInBounds_toArray, List.set_cons_zero, List.set_cons_succ]
  refine restu_early (i := 11) [12, 13, 14, 15] (v := ?v12) rfl (by kernel_rfl) (by kernel_rfl) (by kernel_rfl) (by rfl) (by kernel_rfl) (by rfl) (by kernel_rfl) (fun _ _ _ h => h) (by rfl) ?y12 ?r12
  case y12 => ((intro w9' hm9'; have hc9' := Mod.cell hm9' CiS.out (by first | exact List.not_mem_nil | assumption | (simp; done) | (simp; omega)); clear hm9'; go_simp; with_reducible rfl))
  try simp only [Act.put, List.setIfInBounds_toArray, List.set_cons_zero, List.set_cons_succ]
  refine restu_got (i := 12) (v := ?v13) rfl (by kernel_rfl) (by kernel_rfl) (by kernel_rfl) (by rfl) (fun _ _ _ h => h) (by rfl) ?y13 ?r13
  case y13 => (intro w9q hSwq; clear hSwq; go_simp; with_reducible rfl)
  try simp only [Act.put, List.setIfInBounds_toArray, List.set_cons_zero, List.set_cons_succ]
  refine restu_one (i := 13) (by kernel_rfl) rfl (by rfl) ?_
  have ciS := (RvS.out.at' HBIS).1
  have fiS := (RvS.out.at' HBIS).2
  go_wp2_with fail
  have RaS := Lib.hid (RvS.out.set a xjS)
  have naS : Mod [g] vS (vS.setCell ⟨g, a, none⟩ (.int .u32 (xjS : Int))) := Mod.setCell _ _ _ (by simp)
  have NaS := Lib.hid (NvS.out.nil.trans' naS)
  have RbS := Lib.hid (RvS.out.swp HSIS.out HSJS.out)
  refine backm_to (K1 := [g]) (by kernel_rfl) naS (fun _ h _ => h) ?_
  clear naS ciS fiS CiS CjS NvS RvS
  refine rest_got (i := 14) (v := ?v14) rfl (by kernel_rfl) (by kernel_rfl) (by kernel_rfl) (fun _ _ _ h => h) (by rfl) ?y14 ?r14
  case y14 => (intro w9q hSwq; clear hSwq; go_simp; with_reducible rfl)
  try simp only [Act.put, List.setIfInBounds_toArray, List.set_cons_zero, List.set_cons_succ]
  refine rest_one (i := 15) (by kernel_rfl) rfl (by rfl) ?_
  have cjS := (RaS.out.at' (i := pv) (by rw [Array.size_setIfInBounds]; exact HBJS)).1
  have fjS := (RaS.out.at' (i := pv) (by rw [Array.size_setIfInBounds]; exact HBJS)).2
  go_wp2_with fail
  have nbS : Mod [g] (vS.setCell ⟨g, a, none⟩ (.int .u32 (xjS : Int))) ((vS.setCell ⟨g, a, none⟩ (.int .u32 (xjS : Int))).setCell ⟨g, pv, none⟩ (.int .u32 (xiS : Int))) := Mod.setCell _ _ _ (by simp)
  have MS := Lib.hid (NaS.out.trans' nbS)
  have RS := Lib.hid RbS.out
  refine back_to (K1 := []) nbS (by simp) ?_
  clear nbS cjS fjS NaS RaS RbS HSIS HSJS
  refine rest_done (by kernel_rfl) ?_ _
  obtain ⟨wS, hwS⟩ : ∃ x, (vS.setCell ⟨g, a, none⟩ (.int .u32 (xjS : Int))).setCell ⟨g, pv, none⟩ (.int .u32 (xiS : Int)) = x := ⟨_, rfl⟩
  rw [hwS] at RS MS ⊢
  clear hwS
  have HNT : Hid ((Sort.swp d a pv).size = n) := Lib.hid (by rw [size_swp, HNz.out])
  clear HRz
  go_wp2
  go_loopw [9, 10] (fun s9 s10 wr => ∃ (i j : Nat) (d2 : Array Nat), a + 1 ≤ i ∧ i ≤ b1 + 1 ∧ j ≤ b1 ∧ s9 = .int .i64 (i : Int) ∧ s10 = .int .i64 (j : Int) ∧ Row wr g cap d2 ∧ d2.size = n ∧ Sort.partEqLoop ltN a i j d2 = R0 ∧ Mod [g] w wr) (fun s9 _ _ => b - (RowKit.intOf s9).toNat)
  case atStart => exact ⟨a1, b1, _, by omega, by omega, by omega, rfl, rfl, RS.out, HNT.out, HR0.out, MS.out⟩
  case round =>
    rename World => w3
    obtain ⟨i, j, d2, hai, hib, hjb, rfl, rfl, hR, hn, hPL, hm⟩ := hrel
    have HR2 := Lib.hid hR
    have HN2 := Lib.hid hn
    have HPL := Lib.hid hPL
    have HM3 := Lib.hid hm
    clear hR hn hPL hm HR0
    obtain ⟨q1, hq1⟩ : ∃ p : Nat → Bool, (fun x => !ltN d2[a]! x) = p := ⟨_, rfl⟩
    obtain ⟨q2, hq2⟩ : ∃ p : Nat → Bool, (fun x => ltN d2[a]! x) = p := ⟨_, rfl⟩
    obtain ⟨IC, hIC⟩ : ∃ x, Sort.scanUp q1 d2 j i = x := ⟨_, rfl⟩
    obtain ⟨JD, hJD⟩ : ∃ x, Sort.scanDown q2 d2 IC j = x := ⟨_, rfl⟩
    have HIC := Lib.hid hIC
    have HJD := Lib.hid hJD
    have HQ1 : Hid (∀ x, q1 x = !ltN d2[a]! x) := Lib.hid fun x => by rw [← hq1]
    have HQ2 : Hid (∀ x, q2 x = ltN d2[a]! x) := Lib.hid fun x => by rw [← hq2]
    have HSTOP : Hid (JD < IC → R0 = (IC, d2)) := Lib.hid fun h => by
      rw [← HPL.out]
      exact partEq_stop (by rw [hq1]; exact hIC) (by rw [hq2]; exact hJD) h
    have HGO : Hid (¬ JD < IC → i ≤ IC → JD ≤ j → 0 < IC → Sort.partEqLoop ltN a (IC + 1) (JD - 1) (Sort.swp d2 IC JD) = R0) := Lib.hid fun h h1 h2 h3 => by
      rw [← HPL.out]
      exact (partEq_go (by rw [hq1]; exact hIC) (by rw [hq2]; exact hJD) h h1 h2 h3).symm
    clear hq1 hq2 hIC hJD HPL
    go_wp2
    go_loopw [9] (fun s9 wr => ∃ ix : Nat, a + 1 ≤ ix ∧ ix ≤ b1 + 1 ∧ i ≤ ix ∧ s9 = .int .i64 (ix : Int) ∧ Sort.scanUp q1 d2 j ix = IC ∧ Mod [] w3 wr) (fun s9 _ => b - (RowKit.intOf s9).toNat)
    case atStart => exact ⟨_, by omega, by omega, Nat.le_refl _, by first | rfl | go_num, HIC.out, Mod.refl _ _⟩
    case round =>
      rename World => wrC
      obtain ⟨iC, haiC, hibC, hstC, rfl, hIC, hmC⟩ := hrel
      have HIC2 := Lib.hid hIC
      have HMC := Lib.hid hmC
      have HRC := Lib.hid (HR2.out.mod0 hmC)
      clear hIC hmC
      obtain ⟨blCc, hblCc⟩ : ∃ q, (decide (iC ≤ j) && !ltN (d2)[a]! (d2)[iC]!) = q := ⟨_, rfl⟩
      have HCC := Lib.hid hblCc
      clear hblCc
      go_upto_region 3 with (fail)
      go_cut [43] from 29 to 44 (fun s wx => s = .bool blCc ∧ Mod [] wrC wx)
      case first =>
        by_cases hgC : iC ≤ j
        · have DGC : decide (iC ≤ j) = true := decide_eq_true (by omega)
          have BiC : (iC : Int) < (n : Int) := by omega
          obtain ⟨xC, hxC⟩ : ∃ q, (d2)[a]! = q := ⟨_, rfl⟩
          obtain ⟨yC, hyC⟩ : ∃ q, (d2)[iC]! = q := ⟨_, rfl⟩
          have CXC := Lib.hid (HRC.out.cell (i := a) (by rw [HN2.out]; omega) hxC)
          have CYC := Lib.hid (HRC.out.cell (i := iC) (by rw [HN2.out]; omega) hyC)
          obtain ⟨blC, hblC⟩ : ∃ q, ltN xC yC = q := ⟨_, rfl⟩
          have HLC := Lib.hid (less_any xC yC blC hblC)
          have HBC : Hid (ltN (d2)[a]! (d2)[iC]! = blC) := Lib.hid (by rw [hxC, hyC]; exact hblC)
          clear hxC hyC hblC
          refine rest_start [] 15 #[false, false, false, false, false, false, false, false, false, false, false, false, false, false, false] rfl (by kernel_rfl) (by kernel_rfl) ?_
          intro uC mC
          have CXC6 := Lib.hid (mC.cell CXC.out List.not_mem_nil)
          have CYC6 := Lib.hid (mC.cell CYC.out List.not_mem_nil)
          have NC := Lib.hid mC
          have HLC6 := Lib.hid (HLC.out uC)
          clear mC
          refine rest_got (i := 0) (v := ?v15) rfl (by kernel_rfl) (by kernel_rfl) (by kernel_rfl) (fun _ _ _ h => h) (by rfl) ?y15 ?r15
          case y15 => (intro w9q hSwq; clear hSwq; go_simp; with_reducible rfl)
          try simp only [Act.put, List.setIfInBounds_toArray, List.set_cons_zero, List.set_cons_succ]
          refine rest_got (i := 1) (v := ?v16) rfl (by kernel_rfl) (by kernel_rfl) (by kernel_rfl) (fun _ _ _ h => h) (by rfl) ?y16 ?r16
          case y16 => (intro w9q hSwq; clear hSwq; go_simp; with_reducible rfl)
          try simp only [Act.put, List.setIfInBounds_toArray, List.set_cons_zero, List.set_cons_succ]
          refine rest_got (i := 2) (v := ?v17) rfl (by kernel_rfl) (by kernel_rfl) (by kernel_rfl) (fun _ _ _ h => h) (by rfl) ?y17 ?r17
          case y17 => (intro w9q hSwq; clear hSwq; go_simp; with_reducible rfl)
          try simp only [Act.put, List.setIfInBounds_toArray, List.set_cons_zero, List.set_cons_succ]
          refine rest_got (i := 3) (v := ?v18) rfl (by kernel_rfl) (by kernel_rfl) (by kernel_rfl) (fun _ _ _ h => h) (by rfl) ?y18 ?r18
          case y18 => (intro w9q hSwq; clear hSwq; go_simp; with_reducible rfl)
          try simp only [Act.put, List.setIfInBounds_toArray, List.set_cons_zero, List.set_cons_succ]
          refine rest_got (i := 4) (v := ?v19) rfl (by kernel_rfl) (by kernel_rfl) (by kernel_rfl) (fun _ _ _ h => h) (by rfl) ?y19 ?r19
          case y19 => (intro w9q hSwq; clear hSwq; go_simp; with_reducible rfl)
          try simp only [Act.put, List.setIfInBounds_toArray, List.set_cons_zero, List.set_cons_succ]
          refine rest_got (i := 5) (v := ?v20) rfl (by kernel_rfl) (by kernel_rfl) (by kernel_rfl) (fun _ _ _ h => h) (by rfl) ?y20 ?r20
          case y20 => (intro w9q hSwq; clear hSwq; go_simp; with_reducible rfl)
          try simp only [Act.put, List.setIfInBounds_toArray, List.set_cons_zero, List.set_cons_succ]
          refine rest_got (i := 6) (v := ?v21) rfl (by kernel_rfl) (by kernel_rfl) (by kernel_rfl) (fun _ _ _ h => h) (by rfl) ?y21 ?r21
          case y21 => (intro w9q hSwq; clear hSwq; go_simp; with_reducible rfl)
          try simp only [Act.put, List.setIfInBounds_toArray, List.set_cons_zero, List.set_cons_succ]
          refine rest_got (i := 7) (v := ?v22) rfl (by kernel_rfl) (by kernel_rfl) (by kernel_rfl) (fun _ _ _ h => h) (by rfl) ?y22 ?r22
          case y22 => ((intro w9' hm9'; have hc9' := Mod.cell hm9' CXC6.out (by first | exact List.not_mem_nil | assumption | (simp; done) | (simp; omega)); clear hm9'; go_simp; with_reducible rfl))
          try simp only [Act.put, List.setIfInBounds_toArray, List.set_cons_zero, List.set_cons_succ]
          refine rest_got (i := 8) (v := ?v23) rfl (by kernel_rfl) (by kernel_rfl) (by kernel_rfl) (fun _ _ _ h => h) (by rfl) ?y23 ?r23
          case y23 => (intro w9q hSwq; clear hSwq; go_simp; with_reducible rfl)
          try simp only [Act.put, List.setIfInBounds_toArray, List.set_cons_zero, List.set_cons_succ]
          refine rest_got (i := 9) (v := ?v24) rfl (by kernel_rfl) (by kernel_rfl) (by kernel_rfl) (fun _ _ _ h => h) (by rfl) ?y24 ?r24
          case y24 => (intro w9q hSwq; clear hSwq; go_simp; with_reducible rfl)
          try simp only [Act.put, List.setIfInBounds_toArray, List.set_cons_zero, List.set_cons_succ]
          refine rest_got (i := 10) (v := ?v25) rfl (by kernel_rfl) (by kernel_rfl) (by kernel_rfl) (fun _ _ _ h => h) (by rfl) ?y25 ?r25
          case y25 => (intro w9q hSwq; clear hSwq; go_simp; with_reducible rfl)
          try simp only [Act.put, List.setIfInBounds_toArray, List.set_cons_zero, List.set_cons_succ]
          refine rest_got (i := 11) (v := ?v26) rfl (by kernel_rfl) (by kernel_rfl) (by kernel_rfl) (fun _ _ _ h => h) (by rfl) ?y26 ?r26
          case y26 => ((intro w9' hm9'; have hc9' := Mod.cell hm9' CYC6.out (by first | exact List.not_mem_nil | assumption | (simp; done) | (simp; omega)); clear hm9'; go_simp; with_reducible rfl))
          try simp only [Act.put, List.setIfInBounds_toArray, List.set_cons_zero, List.set_cons_succ]
          refine rest_one (i := 12) (by kernel_rfl) rfl (by rfl) ?_
          go_wp2_with fail
          refine HLC6.out.mono ?_
          rintro e wC ⟨rfl, rfl⟩
          go_wp2_with fail
          refine back_to (K1 := []) (Mod.refl _ _) (by simp) ?_
          clear HLC6 CXC6 CYC6
          refine rest_got (i := 13) (v := ?v27) rfl (by kernel_rfl) (by kernel_rfl) (by kernel_rfl) (fun _ _ _ h => h) (by rfl) ?y27 ?r27
          case y27 => (intro w9q hSwq; clear hSwq; go_simp; with_reducible rfl)
          try simp only [Act.put, List.setIfInBounds_toArray, List.set_cons_zero, List.set_cons_succ]
          refine rest_got (i := 14) (v := ?v28) rfl (by kernel_rfl) (by kernel_rfl) (by kernel_rfl) (fun _ _ _ h => h) (by rfl) ?y28 ?r28
          case y28 => (intro w9q hSwq; clear hSwq; go_simp; with_reducible rfl)
          try simp only [Act.put, List.setIfInBounds_toArray, List.set_cons_zero, List.set_cons_succ]
          refine rest_done (by kernel_rfl) ?_ _
          have RC := Lib.hid (HRC.out.mod0 NC.out)
          have MC := Lib.hid NC.out
          clear NC CXC CYC HLC
          go_wp2
          go_meet
          exact ⟨by rw [← HCC.out, HBC.out, decide_eq_true hgC]; cases blC <;> rfl, MC.out⟩
        · have DGC : decide (iC ≤ j) = false := decide_eq_false (by omega)
          refine rest_start [] 15 #[false, false, false, false, false, false, false, false, false, false, false, false, false, false, false] rfl (by kernel_rfl) (by kernel_rfl) ?_
          intro uC mC
          have NC := Lib.hid mC
          clear mC
          refine rest_got (i := 0) (v := ?v29) rfl (by kernel_rfl) (by kernel_rfl) (by kernel_rfl) (fun _ _ _ h => h) (by rfl) ?y29 ?r29
          case y29 => (intro w9q hSwq; clear hSwq; go_simp; with_reducible rfl)
          try simp only [Act.put, List.setIfInBounds_toArray, List.set_cons_zero, List.set_cons_succ]
          refine rest_got (i := 1) (v := ?v30) rfl (by kernel_rfl) (by kernel_rfl) (by kernel_rfl) (fun _ _ _ h => h) (by rfl) ?y30 ?r30
          case y30 => (intro w9q hSwq; clear hSwq; go_simp; with_reducible rfl)
          try simp only [Act.put, List.setIfInBounds_toArray, List.set_cons_zero, List.set_cons_succ]
          refine rest_got (i := 2) (v := ?v31) rfl (by kernel_rfl) (by kernel_rfl) (by kernel_rfl) (fun _ _ _ h => h) (by rfl) ?y31 ?r31
          case y31 => (intro w9q hSwq; clear hSwq; go_simp; with_reducible rfl)
          try simp only [Act.put, List.setIfInBounds_toArray, List.set_cons_zero, List.set_cons_succ]
          refine rest_got (i := 3) (v := ?v32) rfl (by kernel_rfl) (by kernel_rfl) (by kernel_rfl) (fun _ _ _ h => h) (by rfl) ?y32 ?r32
          case y32 => (intro w9q hSwq; clear hSwq; go_simp; with_reducible rfl)
          try simp only [Act.put, List.setIfInBounds_toArray, List.set_cons_zero, List.set_cons_succ]
          refine rest_skip (i := 4) rfl (by kernel_rfl) (by kernel_rfl) (by kernel_rfl) (fun _ _ _ h => h) (by rfl) ?_
          try simp only [Act.put, List.setIfInBounds_toArray, List.set_cons_zero, List.set_cons_succ]
          refine rest_skip (i := 5) rfl (by kernel_rfl) (by kernel_rfl) (by kernel_rfl) (fun _ _ _ h => h) (by rfl) ?_
          try simp only [Act.put, List.setIfInBounds_toArray, List.set_cons_zero, List.set_cons_succ]
          refine rest_skip (i := 6) rfl (by kernel_rfl) (by kernel_rfl) (by kernel_rfl) (fun _ _ _ h => h) (by rfl) ?_
          try simp only [Act.put, List.setIfInBounds_toArray, List.set_cons_zero, List.set_cons_succ]
          refine rest_skip (i := 7) rfl (by kernel_rfl) (by kernel_rfl) (by kernel_rfl) (fun _ _ _ h => h) (by rfl) ?_
          try simp only [Act.put, List.setIfInBounds_toArray, List.set_cons_zero, List.set_cons_succ]
          refine rest_skip (i := 8) rfl (by kernel_rfl) (by kernel_rfl) (by kernel_rfl) (fun _ _ _ h => h) (by rfl) ?_
          try simp only [Act.put, List.setIfInBounds_toArray, List.set_cons_zero, List.set_cons_succ]
          refine rest_skip (i := 9) rfl (by kernel_rfl) (by kernel_rfl) (by kernel_rfl) (fun _ _ _ h => h) (by rfl) ?_
          try simp only [Act.put, List.setIfInBounds_toArray, List.set_cons_zero, List.set_cons_succ]
          refine rest_skip (i := 10) rfl (by kernel_rfl) (by kernel_rfl) (by kernel_rfl) (fun _ _ _ h => h) (by rfl) ?_
          try simp only [Act.put, List.setIfInBounds_toArray, List.set_cons_zero, List.set_cons_succ]
          refine rest_skip (i := 11) rfl (by kernel_rfl) (by kernel_rfl) (by kernel_rfl) (fun _ _ _ h => h) (by rfl) ?_
          try simp only [Act.put, List.setIfInBounds_toArray, List.set_cons_zero, List.set_cons_succ]
          refine rest_skip (i := 12) rfl (by kernel_rfl) (by kernel_rfl) (by kernel_rfl) (fun _ _ _ h => h) (by rfl) ?_
          try simp only [Act.put, List.setIfInBounds_toArray, List.set_cons_zero, List.set_cons_succ]
          refine rest_skip (i := 13) rfl (by kernel_rfl) (by kernel_rfl) (by kernel_rfl) (fun _ _ _ h => h) (by rfl) ?_
          try simp only [Act.put, List.setIfInBounds_toArray, List.set_cons_zero, List.set_cons_succ]
          refine rest_got (i := 14) (v := ?v33) rfl (by kernel_rfl) (by kernel_rfl) (by kernel_rfl) (fun _ _ _ h => h) (by rfl) ?y33 ?r33
          case y33 => (intro w9q hSwq; clear hSwq; go_simp; with_reducible rfl)
          try simp only [Act.put, List.setIfInBounds_toArray, List.set_cons_zero, List.set_cons_succ]
          refine rest_done (by kernel_rfl) ?_ _
          go_wp2
          go_meet
          exact ⟨by rw [← HCC.out, decide_eq_false hgC]; rfl, NC.out⟩
      rename World => wCc
      obtain ⟨rfl, hmCc⟩ := hcut
      have MCC := Lib.hid hmCc
      have RCC := Lib.hid (HRC.out.mod0 hmCc)
      clear hmCc
      cases blCc with
      | true =>
        have HIC3 := Lib.hid ((scanUp_go (p := q1) (by rw [HQ1.out]; exact HCC.out)).symm.trans HIC2.out)
        have hijC : iC ≤ j := by have := HCC.out; rw [Bool.and_eq_true, decide_eq_true_eq] at this; exact this.1
        go_wp2
        go_roundw
        case rel => exact ⟨iC + 1, by omega, by omega, by omega, by go_num, HIC3.out, HMC.out.trans' MCC.out⟩
        case measure => first | (simp [RowKit.intOf]; done) | (simp [RowKit.intOf]; omega)
      | false =>
        have hiiC : iC = IC := (scanUp_stop (p := q1) (by rw [HQ1.out]; exact HCC.out)).symm.trans HIC2.out
        subst hiiC
        clear HIC2 HCC
        have HMCi := Lib.hid (HMC.out.trans' MCC.out)
        clear HMC MCC HRC
        go_wp2
        go_loopw [10] (fun s10 wr => ∃ jx : Nat, jx ≤ b1 ∧ jx ≤ j ∧ s10 = .int .i64 (jx : Int) ∧ Sort.scanDown q2 d2 iC jx = JD ∧ Mod [] wCc wr) (fun s10 _ => (RowKit.intOf s10).toNat)
        case atStart => exact ⟨_, by omega, Nat.le_refl _, rfl, HJD.out, Mod.refl _ _⟩
        case round =>
          rename World => wrD
          obtain ⟨jD, hjbD, hstD, rfl, hJD, hmD⟩ := hrel
          have HJD2 := Lib.hid hJD
          have HMD := Lib.hid hmD
          have HRD := Lib.hid (RCC.out.mod0 hmD)
          clear hJD hmD
          obtain ⟨blDc, hblDc⟩ : ∃ q, (decide (iC ≤ jD) && ltN (d2)[a]! (d2)[jD]!) = q := ⟨_, rfl⟩
          have HCD := Lib.hid hblDc
          clear hblDc
          go_upto_region 5 with (fail)
          go_cut [59] from 46 to 60 (fun s wx => s = .bool blDc ∧ Mod [] wrD wx)
          case first =>
            by_cases hgD : iC ≤ jD
            · have DGD : decide (iC ≤ jD) = true := decide_eq_true (by omega)
              have BjD : (jD : Int) < (n : Int) := by omega
              obtain ⟨xD, hxD⟩ : ∃ q, (d2)[a]! = q := ⟨_, rfl⟩
              obtain ⟨yD, hyD⟩ : ∃ q, (d2)[jD]! = q := ⟨_, rfl⟩
              have CXD := Lib.hid (HRD.out.cell (i := a) (by rw [HN2.out]; omega) hxD)
              have CYD := Lib.hid (HRD.out.cell (i := jD) (by rw [HN2.out]; omega) hyD)
              obtain ⟨blD, hblD⟩ : ∃ q, ltN xD yD = q := ⟨_, rfl⟩
              have HLD := Lib.hid (less_any xD yD blD hblD)
              have HBD : Hid (ltN (d2)[a]! (d2)[jD]! = blD) := Lib.hid (by rw [hxD, hyD]; exact hblD)
              clear hxD hyD hblD
              refine rest_start [] 14 #[false, false, false, false, false, false, false, false, false, false, false, false, false, false] rfl (by kernel_rfl) (by kernel_rfl) ?_
              intro uD mD
              have CXD6 := Lib.hid (mD.cell CXD.out List.not_mem_nil)
              have CYD6 := Lib.hid (mD.cell CYD.out List.not_mem_nil)
              have ND := Lib.hid mD
              have HLD6 := Lib.hid (HLD.out uD)
              clear mD
              refine rest_got (i := 0) (v := ?v34) rfl (by kernel_rfl) (by kernel_rfl) (by kernel_rfl) (fun _ _ _ h => h) (by rfl) ?y34 ?r34
              case y34 => (intro w9q hSwq; clear hSwq; go_simp; with_reducible rfl)
              try simp only [Act.put, List.setIfInBounds_toArray, List.set_cons_zero, List.set_cons_succ]
              refine rest_got (i := 1) (v := ?v35) rfl (by kernel_rfl) (by kernel_rfl) (by kernel_rfl) (fun _ _ _ h => h) (by rfl) ?y35 ?r35
              case y35 => (intro w9q hSwq; clear hSwq; go_simp; with_reducible rfl)
              try simp only [Act.put, List.setIfInBounds_toArray, List.set_cons_zero, List.set_cons_succ]
              refine rest_got (i := 2) (v := ?v36) rfl (by kernel_rfl) (by kernel_rfl) (by kernel_rfl) (fun _ _ _ h => h) (by rfl) ?y36 ?r36
              case y36 => (intro w9q hSwq; clear hSwq; go_simp; with_reducible rfl)
              try simp only [Act.put, List.setIfInBounds_toArray, List.set_cons_zero, List.set_cons_succ]
              refine rest_got (i := 3) (v := ?v37) rfl (by kernel_rfl) (by kernel_rfl) (by kernel_rfl) (fun _ _ _ h => h) (by rfl) ?y37 ?r37
              case y37 => (intro w9q hSwq; clear hSwq; go_simp; with_reducible rfl)
              try simp only [Act.put, List.setIfInBounds_toArray, List.set_cons_zero, List.set_cons_succ]
              refine rest_got (i := 4) (v := ?v38) rfl (by kernel_rfl) (by kernel_rfl) (by kernel_rfl) (fun _ _ _ h => h) (by rfl) ?y38 ?r38
              case y38 => (intro w9q hSwq; clear hSwq; go_simp; with_reducible rfl)
              try simp only [Act.put, List.setIfInBounds_toArray, List.set_cons_zero, List.set_cons_succ]
              refine rest_got (i := 5) (v := ?v39) rfl (by kernel_rfl) (by kernel_rfl) (by kernel_rfl) (fun _ _ _ h => h) (by rfl) ?y39 ?r39
              case y39 => (intro w9q hSwq; clear hSwq; go_simp; with_reducible rfl)
              try simp only [Act.put, List.setIfInBounds_toArray, List.set_cons_zero, List.set_cons_succ]
              refine rest_got (i := 6) (v := ?v40) rfl (by kernel_rfl) (by kernel_rfl) (by kernel_rfl) (fun _ _ _ h => h) (by rfl) ?y40 ?r40
              case y40 => (intro w9q hSwq; clear hSwq; go_simp; with_reducible rfl)
              try simp only [Act.put, List.setIfInBounds_toArray, List.set_cons_zero, List.set_cons_succ]
              refine rest_got (i := 7) (v := ?v41) rfl (by kernel_rfl) (by kernel_rfl) (by kernel_rfl) (fun _ _ _ h => h) (by rfl) ?y41 ?r41
              case y41 => ((intro w9' hm9'; have hc9' := Mod.cell hm9' CXD6.out (by first | exact List.not_mem_nil | assumption | (simp; done) | (simp; omega)); clear hm9'; go_simp; with_reducible rfl))
              try simp only [Act.put, List.setIfInBounds_toArray, List.set_cons_zero, List.set_cons_succ]
              refine rest_got (i := 8) (v := ?v42) rfl (by kernel_rfl) (by kernel_rfl) (by kernel_rfl) (fun _ _ _ h => h) (by rfl) ?y42 ?r42
              case y42 => (intro w9q hSwq; clear hSwq; go_simp; with_reducible rfl)
              try simp only [Act.put, List.setIfInBounds_toArray, List.set_cons_zero, List.set_cons_succ]
              refine rest_got (i := 9) (v := ?v43) rfl (by kernel_rfl) (by kernel_rfl) (by kernel_rfl) (fun _ _ _ h => h) (by rfl) ?y43 ?r43
              case y43 => (intro w9q hSwq; clear hSwq; go_simp; with_reducible rfl)
              try simp only [Act.put, List.setIfInBounds_toArray, List.set_cons_zero, List.set_cons_succ]
              refine rest_got (i := 10) (v := ?v44) rfl (by kernel_rfl) (by kernel_rfl) (by kernel_rfl) (fun _ _ _ h => h) (by rfl) ?y44 ?r44
              case y44 => (intro w9q hSwq; clear hSwq; go_simp; with_reducible rfl)
              try simp only [Act.put, List.setIfInBounds_toArray, List.set_cons_zero, List.set_cons_succ]
              refine rest_got (i := 11) (v := ?v45) rfl (by kernel_rfl) (by kernel_rfl) (by kernel_rfl) (fun _ _ _ h => h) (by rfl) ?y45 ?r45
              case y45 => ((intro w9' hm9'; have hc9' := Mod.cell hm9' CYD6.out (by first | exact List.not_mem_nil | assumption | (simp; done) | (simp; omega)); clear hm9'; go_simp; with_reducible rfl))
              try simp only [Act.put, List.setIfInBounds_toArray, List.set_cons_zero, List.set_cons_succ]
              refine rest_one (i := 12) (by kernel_rfl) rfl (by rfl) ?_
              go_wp2_with fail
              refine HLD6.out.mono ?_
              rintro e wD ⟨rfl, rfl⟩
              go_wp2_with fail
              refine back_to (K1 := []) (Mod.refl _ _) (by simp) ?_
              clear HLD6 CXD6 CYD6
              refine rest_got (i := 13) (v := ?v46) rfl (by kernel_rfl) (by kernel_rfl) (by kernel_rfl) (fun _ _ _ h => h) (by rfl) ?y46 ?r46
              case y46 => (intro w9q hSwq; clear hSwq; go_simp; with_reducible rfl)
              try simp only [Act.put, List.setIfInBounds_toArray, List.set_cons_zero, List.set_cons_succ]
              refine rest_done (by kernel_rfl) ?_ _
              have RD := Lib.hid (HRD.out.mod0 ND.out)
              have MD := Lib.hid ND.out
              clear ND CXD CYD HLD
              go_wp2
              go_meet
              exact ⟨by rw [← HCD.out, HBD.out, decide_eq_true hgD]; cases blD <;> rfl, MD.out⟩
            · have DGD : decide (iC ≤ jD) = false := decide_eq_false (by omega)
              refine rest_start [] 14 #[false, false, false, false, false, false, false, false, false, false, false, false, false, false] rfl (by kernel_rfl) (by kernel_rfl) ?_
              intro uD mD
              have ND := Lib.hid mD
              clear mD
              refine rest_got (i := 0) (v := ?v47) rfl (by kernel_rfl) (by kernel_rfl) (by kernel_rfl) (fun _ _ _ h => h) (by rfl) ?y47 ?r47
              case y47 => (intro w9q hSwq; clear hSwq; go_simp; with_reducible rfl)
              try simp only [Act.put, List.setIfInBounds_toArray, List.set_cons_zero, List.set_cons_succ]
              refine rest_got (i := 1) (v := ?v48) rfl (by kernel_rfl) (by kernel_rfl) (by kernel_rfl) (fun _ _ _ h => h) (by rfl) ?y48 ?r48
              case y48 => (intro w9q hSwq; clear hSwq; go_simp; with_reducible rfl)
              try simp only [Act.put, List.setIfInBounds_toArray, List.set_cons_zero, List.set_cons_succ]
              refine rest_got (i := 2) (v := ?v49) rfl (by kernel_rfl) (by kernel_rfl) (by kernel_rfl) (fun _ _ _ h => h) (by rfl) ?y49 ?r49
              case y49 => (intro w9q hSwq; clear hSwq; go_simp; with_reducible rfl)
              try simp only [Act.put, List.setIfInBounds_toArray, List.set_cons_zero, List.set_cons_succ]
              refine rest_got (i := 3) (v := ?v50) rfl (by kernel_rfl) (by kernel_rfl) (by kernel_rfl) (fun _ _ _ h => h) (by rfl) ?y50 ?r50
              case y50 => (intro w9q hSwq; clear hSwq; go_simp; with_reducible rfl)
              try simp only [Act.put, List.setIfInBounds_toArray, List.set_cons_zero, List.set_cons_succ]
              refine rest_skip (i := 4) rfl (by kernel_rfl) (by kernel_rfl) (by kernel_rfl) (fun _ _ _ h => h) (by rfl) ?_
              try simp only [Act.put, List.setIfInBounds_toArray, List.set_cons_zero, List.set_cons_succ]
              refine rest_skip (i := 5) rfl (by kernel_rfl) (by kernel_rfl) (by kernel_rfl) (fun _ _ _ h => h) (by rfl) ?_
              try simp only [Act.put, List.setIfInBounds_toArray, List.set_cons_zero, List.set_cons_succ]
              refine rest_skip (i := 6) rfl (by kernel_rfl) (by kernel_rfl) (by kernel_rfl) (fun _ _ _ h => h) (by rfl) ?_
              try simp only [Act.put, List.setIfInBounds_toArray, List.set_cons_zero, List.set_cons_succ]
              refine rest_skip (i := 7) rfl (by kernel_rfl) (by kernel_rfl) (by kernel_rfl) (fun _ _ _ h => h) (by rfl) ?_
              try simp only [Act.put, List.setIfInBounds_toArray, List.set_cons_zero, List.set_cons_succ]
              refine rest_skip (i := 8) rfl (by kernel_rfl) (by kernel_rfl) (by kernel_rfl) (fun _ _ _ h => h) (by rfl) ?_
              try simp only [Act.put, List.setIfInBounds_toArray, List.set_cons_zero, List.set_cons_succ]
              refine rest_skip (i := 9) rfl (by kernel_rfl) (by kernel_rfl) (by kernel_rfl) (fun _ _ _ h => h) (by rfl) ?_
              try simp only [Act.put, List.setIfInBounds_toArray, List.set_cons_zero, List.set_cons_succ]
              refine rest_skip (i := 10) rfl (by kernel_rfl) (by kernel_rfl) (by kernel_rfl) (fun _ _ _ h => h) (by rfl) ?_
              try simp only [Act.put, List.setIfInBounds_toArray, List.set_cons_zero, List.set_cons_succ]
              refine rest_skip (i := 11) rfl (by kernel_rfl) (by kernel_rfl) (by kernel_rfl) (fun _ _ _ h => h) (by rfl) ?_
              try simp only [Act.put, List.setIfInBounds_toArray, List.set_cons_zero, List.set_cons_succ]
              refine rest_skip (i := 12) rfl (by kernel_rfl) (by kernel_rfl) (by kernel_rfl) (fun _ _ _ h => h) (by rfl) ?_
              try simp only [Act.put, List.setIfInBounds_toArray, List.set_cons_zero, List.set_cons_succ]
              refine rest_got (i := 13) (v := ?v51) rfl (by kernel_rfl) (by kernel_rfl) (by kernel_rfl) (fun _ _ _ h => h) (by rfl) ?y51 ?r51
              case y51 => (intro w9q hSwq; clear hSwq; go_simp; with_reducible rfl)
              try simp only [Act.put, List.setIfInBounds_toArray, List.set_cons_zero, List.set_cons_succ]
              refine rest_done (by kernel_rfl) ?_ _
              go_wp2
              go_meet
              exact ⟨by rw [← HCD.out, decide_eq_false hgD]; rfl, ND.out⟩
          rename World => wDc
          obtain ⟨rfl, hmDc⟩ := hcut
          have MCD := Lib.hid hmDc
          have RCD := Lib.hid (HRD.out.mod0 hmDc)
          clear hmDc
          cases blDc with
          | true =>
            have HJD3 := Lib.hid ((scanDown_go (p := q2) (by omega) (by rw [HQ2.out]; exact HCD.out)).symm.trans HJD2.out)
            have hijD : iC ≤ jD := by have := HCD.out; rw [Bool.and_eq_true, decide_eq_true_eq] at this; exact this.1
            obtain ⟨jmD, hjmD⟩ : ∃ q, jD - 1 = q := ⟨_, rfl⟩
            have ejmD : (jD : Int) - 1 = (jmD : Int) := by omega
            rw [hjmD] at HJD3
            go_wp2
            go_roundw
            case rel => exact ⟨jmD, by omega, by omega, by first | rfl | (congr 1; omega), HJD3.out, HMD.out.trans' MCD.out⟩
            case measure => first | (simp [RowKit.intOf]; done) | (simp [RowKit.intOf]; omega)
          | false =>
            have hjjD : jD = JD := (scanDown_stop (p := q2) (by rw [HQ2.out]; exact HCD.out)).symm.trans HJD2.out
            subst hjjD
            clear HJD2 HCD
            have HMDj := Lib.hid (HMD.out.trans' MCD.out)
            clear HMD MCD HRD
            by_cases hjc : jD < iC
            · have hRR := HSTOP.out hjc
              have DGG : decide (jD < iC) = true := decide_eq_true hjc
              clear HGO HSTOP
              go_wp2
              go_ret
              rw [hRR]
              exact ⟨rfl, RCD.out, (HM3.out.trans0 HMCi.out).trans0 HMDj.out⟩
            · have HG2 := Lib.hid (HGO.out hjc (by omega) (by omega) (by omega))
              have DGG : decide (jD < iC) = false := decide_eq_false hjc
              have BjD : (jD : Int) < (n : Int) := by omega
              have BiC : (iC : Int) < (n : Int) := by omega
              clear HGO HSTOP
              obtain ⟨xiV, hxiV⟩ : ∃ x, (d2)[iC]! = x := ⟨_, rfl⟩
              obtain ⟨xjV, hxjV⟩ : ∃ x, (d2)[jD]! = x := ⟨_, rfl⟩
              have HSIV : Hid ((d2)[iC]! = xiV) := Lib.hid hxiV
              have HSJV : Hid ((d2)[jD]! = xjV) := Lib.hid hxjV
              have HBIV : iC < (d2).size := by rw [HN2.out]; omega
              have HBJV : jD < (d2).size := by rw [HN2.out]; omega
              clear hxiV hxjV
              go_upto_region 8 with (fail)
              refine restu_start 13 [] [g] 16 #[false, false, false, false, false, false, false, false, false, false, false, false, false, false, false, false] rfl (by kernel_rfl) (by kernel_rfl) ?_
              intro vV nV
              have RvV := Lib.hid (RCD.out.mod0 nV)
              have CiV := Lib.hid (RvV.out.cell HBIV HSIV.out)
              have CjV := Lib.hid (RvV.out.cell HBJV HSJV.out)
              have NvV := Lib.hid nV
              clear nV
              refine restu_got (i := 0) (v := ?v52) rfl (by kernel_rfl) (by kernel_rfl) (by kernel_rfl) (by rfl) (fun _ _ _ h => h) (by rfl) ?y52 ?r52
              case y52 => (intro w9q hSwq; clear hSwq; go_simp; with_reducible rfl)
              try simp only [Act.put, List.setIfInBounds_toArray, List.set_cons_zero, List.set_cons_succ]
              refine restu_got (i := 1) (v := ?v53) rfl (by kernel_rfl) (by kernel_rfl) (by kernel_rfl) (by rfl) (fun _ _ _ h => h) (by rfl) ?y53 ?r53
              case y53 => (intro w9q hSwq; clear hSwq; go_simp; with_reducible rfl)
              try simp only [Act.put, List.setIfInBounds_toArray, List.set_cons_zero, List.set_cons_succ]
              refine restu_got (i := 2) (v := ?v54) rfl (by kernel_rfl) (by kernel_rfl) (by kernel_rfl) (by rfl) (fun _ _ _ h => h) (by rfl) ?y54 ?r54
              case y54 => (intro w9q hSwq; clear hSwq; go_simp; with_reducible rfl)
              try simp only [Act.put, List.setIfInBounds_toArray, List.set_cons_zero, List.set_cons_succ]
              refine restu_got (i := 3) (v := ?v55) rfl (by kernel_rfl) (by kernel_rfl) (by kernel_rfl) (by rfl) (fun _ _ _ h => h) (by rfl) ?y55 ?r55
              case y55 => (intro w9q hSwq; clear hSwq; go_simp; with_reducible rfl)
              try simp only [Act.put, List.setIfInBounds_toArray, List.set_cons_zero, List.set_cons_succ]
              refine restu_got (i := 4) (v := ?v56) rfl (by kernel_rfl) (by kernel_rfl) (by kernel_rfl) (by rfl) (fun _ _ _ h => h) (by rfl) ?y56 ?r56
              case y56 => (intro w9q hSwq; clear hSwq; go_simp; with_reducible rfl)
              try simp only [Act.put, List.setIfInBounds_toArray, List.set_cons_zero, List.set_cons_succ]
              refine restu_got (i := 5) (v := ?v57) rfl (by kernel_rfl) (by kernel_rfl) (by kernel_rfl) (by rfl) (fun _ _ _ h => h) (by rfl) ?y57 ?r57
              case y57 => (intro w9q hSwq; clear hSwq; go_simp; with_reducible rfl)
              try simp only [Act.put, List.setIfInBounds_toArray, List.set_cons_zero, List.set_cons_succ]
              refine restu_got (i := 6) (v := ?v58) rfl (by kernel_rfl) (by kernel_rfl) (by kernel_rfl) (by rfl) (fun _ _ _ h => h) (by rfl) ?y58 ?r58
              case y58 => (intro w9q hSwq; clear hSwq; go_simp; with_reducible rfl)
              try simp only [Act.put, List.setIfInBounds_toArray, List.set_cons_zero, List.set_cons_succ]
              refine restu_early (i := 7) [12, 13, 14, 15] (v := ?v59) rfl (by kernel_rfl) (by kernel_rfl) (by kernel_rfl) (by rfl) (by kernel_rfl) (by rfl) (by kernel_rfl) (fun _ _ _ h => h) (by rfl) ?y59 ?r59
              case y59 => ((intro w9' hm9'; have hc9' := Mod.cell hm9' CjV.out (by first | exact List.not_mem_nil | assumption | (simp; done) | (simp; omega)); clear hm9'; go_simp; with_reducible rfl))
              try simp only [Act.put, List.setIfInBounds_toArray, List.set_cons_zero, List.set_cons_succ]
              refine restu_got (i := 8) (v := ?v60) rfl (by kernel_rfl) (by kernel_rfl) (by kernel_rfl) (by rfl) (fun _ _ _ h => h) (by rfl) ?y60 ?r60
              case y60 => (intro w9q hSwq; clear hSwq; go_simp; with_reducible rfl)
              try simp only [Act.put, List.setIfInBounds_toArray, List.set_cons_zero, List.set_cons_succ]
              refine restu_got (i := 9) (v := ?v61) rfl (by kernel_rfl) (by kernel_rfl) (by kernel_rfl) (by rfl) (fun _ _ _ h => h) (by rfl) ?y61 ?r61
              case y61 => (intro w9q hSwq; clear hSwq; go_simp; with_reducible rfl)
              try simp only [Act.put, List.setIfInBounds_toArray, List.set_cons_zero, List.set_cons_succ]
              refine restu_got (i := 10) (v := ?v62) rfl (by kernel_rfl) (by kernel_rfl) (by kernel_rfl) (by rfl) (fun _ _ _ h => h) (by rfl) ?y62 ?r62
              case y62 => (intro w9q hSwq; clear hSwq; go_simp; with_reducible rfl)
              try simp only [Act.put, List.setIfInBounds_toArray, List.set_cons_zero, List.set_cons_succ]
              refine restu_early (i := 11) [12, 13, 14, 15] (v := ?v63) rfl (by kernel_rfl) (by kernel_rfl) (by kernel_rfl) (by rfl) (by kernel_rfl) (by rfl) (by kernel_rfl) (fun _ _ _ h => h) (by rfl) ?y63 ?r63
              case y63 => ((intro w9' hm9'; have hc9' := Mod.cell hm9' CiV.out (by first | exact List.not_mem_nil | assumption | (simp; done) | (simp; omega)); clear hm9'; go_simp; with_reducible rfl))
              try simp only [Act.put, List.setIfInBounds_toArray, List.set_cons_zero, List.set_cons_succ]
              refine restu_got (i := 12) (v := ?v64) rfl (by kernel_rfl) (by kernel_rfl) (by kernel_rfl) (by rfl) (fun _ _ _ h => h) (by rfl) ?y64 ?r64
              case y64 => (intro w9q hSwq; clear hSwq; go_simp; with_reducible rfl)
              try simp only [Act.put, List.setIfInBounds_toArray, List.set_cons_zero, List.set_cons_succ]
              refine restu_one (i := 13) (by kernel_rfl) rfl (by rfl) ?_
              have ciV := (RvV.out.at' HBIV).1
              have fiV := (RvV.out.at' HBIV).2
              go_wp2_with fail
              have RaV := Lib.hid (RvV.out.set iC xjV)
              have naV : Mod [g] vV (vV.setCell ⟨g, iC, none⟩ (.int .u32 (xjV : Int))) := Mod.setCell _ _ _ (by simp)
              have NaV := Lib.hid (NvV.out.nil.trans' naV)
              have RbV := Lib.hid (RvV.out.swp HSIV.out HSJV.out)
              refine backm_to (K1 := [g]) (by kernel_rfl) naV (fun _ h _ => h) ?_
              clear naV ciV fiV CiV CjV NvV RvV
              refine rest_got (i := 14) (v := ?v65) rfl (by kernel_rfl) (by kernel_rfl) (by kernel_rfl) (fun _ _ _ h => h) (by rfl) ?y65 ?r65
              case y65 => (intro w9q hSwq; clear hSwq; go_simp; with_reducible rfl)
              try simp only [Act.put, List.setIfInBounds_toArray, List.set_cons_zero, List.set_cons_succ]
              refine rest_one (i := 15) (by kernel_rfl) rfl (by rfl) ?_
              have cjV := (RaV.out.at' (i := jD) (by rw [Array.size_setIfInBounds]; exact HBJV)).1
              have fjV := (RaV.out.at' (i := jD) (by rw [Array.size_setIfInBounds]; exact HBJV)).2
              go_wp2_with fail
              have nbV : Mod [g] (vV.setCell ⟨g, iC, none⟩ (.int .u32 (xjV : Int))) ((vV.setCell ⟨g, iC, none⟩ (.int .u32 (xjV : Int))).setCell ⟨g, jD, none⟩ (.int .u32 (xiV : Int))) := Mod.setCell _ _ _ (by simp)
              have MV := Lib.hid (NaV.out.trans' nbV)
              have RV := Lib.hid RbV.out
              refine back_to (K1 := []) nbV (by simp) ?_
              clear nbV cjV fjV NaV RaV RbV HSIV HSJV
              refine rest_done (by kernel_rfl) ?_ _
              obtain ⟨jDm, hjDm⟩ : ∃ q, jD - 1 = q := ⟨_, rfl⟩
              have ejDm : (jD : Int) - 1 = (jDm : Int) := by omega
              rw [hjDm] at HG2
              go_wp2
              go_roundw
              case rel => exact ⟨iC + 1, jDm, Sort.swp d2 iC jD, by omega, by omega, by omega, by go_num, by first | rfl | (congr 1; omega), RV.out, by rw [size_swp, HN2.out], HG2.out, ((HM3.out.trans0 HMCi.out).trans0 HMDj.out).trans' MV.out⟩
              case measure => first | (simp [RowKit.intOf]; done) | (simp [RowKit.intOf]; omega)
end Go.Proofs.Ytgneigdcgfiooaa
