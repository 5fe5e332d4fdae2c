/- Texts put together (4 of 9): Sort5. -/
import Derived.Test.YtgneigdcgfiooaaZ2
import Derived.Handy
import Derived.Deep.CutRange
import Derived.Deep.CutBlock
import Derived.Test.YtgneigdcgfiooaaZ3
/- partitionOrdered at uint32. -/
namespace Go.Proofs.Ytgneigdcgfiooaa
open Go Go.RowKit Go.Lib

theorem scanUp_go {p : Nat → Bool} {d : Array Nat} {j i : Nat} (h : (decide (i ≤ j) && p d[i]!) = true) : Sort.scanUp p d j i = Sort.scanUp p d j (i + 1) := by
  rw [Bool.and_eq_true, decide_eq_true_eq] at h
  rw [Sort.scanUp, if_pos (by simp [h.1, h.2])]
theorem scanUp_stop {p : Nat → Bool} {d : Array Nat} {j i : Nat} (h : (decide (i ≤ j) && p d[i]!) = false) : Sort.scanUp p d j i = i := by
  rw [Sort.scanUp, if_neg (by
    intro hh
    rw [Bool.and_eq_true] at hh
    rw [Bool.and_eq_false_iff, decide_eq_false_iff_not] at h
    rcases h with h | h
    · exact h (by simpa using hh.1)
    · rw [h] at hh; exact Bool.false_ne_true hh.2)]
theorem scanDown_go {p : Nat → Bool} {d : Array Nat} {i j : Nat} (hi : 0 < i) (h : (decide (i ≤ j) && p d[j]!) = true) : Sort.scanDown p d i j = Sort.scanDown p d i (j - 1) := by
  rw [Bool.and_eq_true, decide_eq_true_eq] at h
  obtain ⟨k, rfl⟩ : ∃ k, j = k + 1 := ⟨j - 1, by omega⟩
  rw [Sort.scanDown, if_pos (by simp [h.1, h.2]), Nat.add_sub_cancel]
theorem scanDown_stop {p : Nat → Bool} {d : Array Nat} {i j : Nat} (h : (decide (i ≤ j) && p d[j]!) = false) : Sort.scanDown p d i j = j := by
  cases j with
  | zero => rfl
  | succ k =>
    rw [Sort.scanDown, if_neg (by
      intro hh
      rw [Bool.and_eq_true] at hh
      rw [Bool.and_eq_false_iff, decide_eq_false_iff_not] at h
      rcases h with h | h
      · exact h (by simpa using hh.1)
      · rw [h] at hh; exact Bool.false_ne_true hh.2)]
theorem partLoop_stop {a i j i2 j2 : Nat} {d : Array Nat} (h1 : Sort.scanUp (fun x => ltN x d[a]!) d j i = i2) (h2 : Sort.scanDown (fun x => !ltN x d[a]!) d i2 j = j2) (h : j2 < i2) : Sort.partLoop ltN a i j d = (j2, d) := by
  rw [Sort.partLoop]
  simp only [h1, h2]
  rw [if_pos h]
theorem partLoop_go {a i j i2 j2 : Nat} {d : Array Nat} (h1 : Sort.scanUp (fun x => ltN x d[a]!) d j i = i2) (h2 : Sort.scanDown (fun x => !ltN x d[a]!) d i2 j = j2) (h : ¬ j2 < i2) (hi : i ≤ i2) (hj : j2 ≤ j) (h0 : 0 < i2) : Sort.partLoop ltN a i j d = Sort.partLoop ltN a (i2 + 1) (j2 - 1) (Sort.swp d i2 j2) := by
  rw [Sort.partLoop]
  simp only [h1, h2]
  rw [if_neg h, dif_pos (by omega)]
/-- What partition leaves, from the first swap on. -/
theorem part_done {a b pivot i j : Nat} {d d1 : Array Nat} (h0 : Sort.swp d a pivot = d1) (h1 : Sort.scanUp (fun x => ltN x d1[a]!) d1 (b - 1) (a + 1) = i) (h2 : Sort.scanDown (fun x => !ltN x d1[a]!) d1 i (b - 1) = j) (h : j < i) : Sort.partition ltN d a b pivot = (j, true, Sort.swp d1 j a) := by
  unfold Sort.partition
  simp only [h0, h1, h2]
  rw [if_pos h]
theorem part_loop {a b pivot i j : Nat} {d d1 : Array Nat} {r : Nat × Array Nat} (h0 : Sort.swp d a pivot = d1) (h1 : Sort.scanUp (fun x => ltN x d1[a]!) d1 (b - 1) (a + 1) = i) (h2 : Sort.scanDown (fun x => !ltN x d1[a]!) d1 i (b - 1) = j) (h : ¬ j < i) (h3 : Sort.partLoop ltN a (i + 1) (j - 1) (Sort.swp d1 i j) = r) : Sort.partition ltN d a b pivot = (r.1, false, Sort.swp r.2 r.1 a) := by
  unfold Sort.partition
  simp only [h0, h1, h2]
  rw [if_neg h, h3]
set_option maxRecDepth 100000 in
set_option maxHeartbeats 16000000 in
theorem part_any (g cap n a b pv : Nat) (d : Array Nat) (w : World) (hr : Row w g cap d) (hn : d.size = n) (hap : a ≤ pv) (hpb : pv < b) (hb : b ≤ n) (hd : n ≤ 1000000) :
    Calls Try.prog 43 #[.slice (some ⟨g, 0, none⟩) n cap, .int .i64 (a : Int), .int .i64 (b : Int), .int .i64 (pv : Int)] w fun e w' => e = .returned (.tuple #[.int .i64 ((Sort.partition ltN d a b pv).1 : Int), .bool (Sort.partition ltN d a b pv).2.1]) ∧ Row w' g cap (Sort.partition ltN d a b pv).2.2 ∧ Mod [g] w w' := by
  have HR0 := Lib.hid hr
  have HN0 := Lib.hid hn
  obtain ⟨P, hP⟩ : ∃ x, Sort.partition ltN d a b pv = x := ⟨_, rfl⟩
  have HP := Lib.hid hP
  rw [hP]
  obtain ⟨d1, hd1⟩ : ∃ x, Sort.swp d a pv = x := ⟨_, rfl⟩
  have HD1 := Lib.hid hd1
  obtain ⟨b1, hb1⟩ : ∃ x, b - 1 = x := ⟨_, rfl⟩
  have eb1 : (b : Int) - 1 = (b1 : Int) := by omega
  have HB1 := Lib.hid hb1
  obtain ⟨p1, hp1⟩ : ∃ p : Nat → Bool, (fun x => ltN x d1[a]!) = p := ⟨_, rfl⟩
  obtain ⟨p2, hp2⟩ : ∃ p : Nat → Bool, (fun x => !ltN x d1[a]!) = p := ⟨_, rfl⟩
  obtain ⟨IA, hI⟩ : ∃ x, Sort.scanUp p1 d1 b1 (a + 1) = x := ⟨_, rfl⟩
  obtain ⟨JB, hJ⟩ : ∃ x, Sort.scanDown p2 d1 IA b1 = x := ⟨_, rfl⟩
  have HI := Lib.hid hI
  have HJ := Lib.hid hJ
  have HP1 : Hid (∀ x, p1 x = ltN x d1[a]!) := Lib.hid fun x => by rw [← hp1]
  have HP2 : Hid (∀ x, p2 x = !ltN x d1[a]!) := Lib.hid fun x => by rw [← hp2]
  have HDONE : Hid (JB < IA → P = (JB, true, Sort.swp d1 JB a)) := Lib.hid fun h => by
    rw [← hP]
    exact part_done hd1 (by rw [hb1, hp1]; exact hI) (by rw [hb1, hp2]; exact hJ) h
  have HLOOP : Hid (¬ JB < IA → ∀ r, Sort.partLoop ltN a (IA + 1) (JB - 1) (Sort.swp d1 IA JB) = r → P = (r.1, false, Sort.swp r.2 r.1 a)) := Lib.hid fun h r hr => by
    rw [← hP]
    exact part_loop hd1 (by rw [hb1, hp1]; exact hI) (by rw [hb1, hp2]; exact hJ) h hr
  have Ba : (a : Int) < (n : Int) := by omega
  have Bp : (pv : Int) < (n : Int) := by omega
  have hbb : b1 < n := by omega
  have hab1 : a ≤ b1 := by omega
  clear hr hn hP hd1 hb1 hp1 hp2 hI hJ
  go_enter Try.func43, Try.ntmps43
  obtain ⟨xiS, hxiS⟩ : ∃ x, (d)[a]! = x := ⟨_, rfl⟩
  obtain ⟨xjS, hxjS⟩ : ∃ x, (d)[pv]! = x := ⟨_, rfl⟩
  have HSIS : Hid ((d)[a]! = xiS) := Lib.hid hxiS
  have HSJS : Hid ((d)[pv]! = xjS) := Lib.hid hxjS
  have HBIS : a < (d).size := by rw [HN0.out]; omega
  have HBJS : pv < (d).size := by rw [HN0.out]; omega
  clear hxiS hxjS
  go_upto_region 1 with (fail)
  refine restu_start 13 [] [g] 16 #[false, false, false, false, false, false, false, false, false, false, false, false, false, false, false, false] rfl (by kernel_rfl) (by kernel_rfl) ?_
  intro vS nS
  have RvS := Lib.hid (HR0.out.mod0 nS)
  have CiS := Lib.hid (RvS.out.cell HBIS HSIS.out)
  have CjS := Lib.hid (RvS.out.cell HBJS HSJS.out)
  have NvS := Lib.hid nS
  clear nS
  refine restu_got (i := 0) (v := ?v1) rfl (by kernel_rfl) (by kernel_rfl) (by kernel_rfl) (by rfl) (fun _ _ _ h => h) (by rfl) ?y1 ?r1
  case y1 => (intro w9q hSwq; clear hSwq; go_simp; with_reducible rfl)
  try simp only [Act.put, List.setIfInBounds_toArray, List.set_cons_zero, List.set_cons_succ]
  refine restu_got (i := 1) (v := ?v2) rfl (by kernel_rfl) (by kernel_rfl) (by kernel_rfl) (by rfl) (fun _ _ _ h => h) (by rfl) ?y2 ?r2
  case y2 => (intro w9q hSwq; clear hSwq; go_simp; with_reducible rfl)
  try simp only [Act.put, List.setIfInBounds_toArray, List.set_cons_zero, List.set_cons_succ]
  refine restu_got (i := 2) (v := ?v3) rfl (by kernel_rfl) (by kernel_rfl) (by kernel_rfl) (by rfl) (fun _ _ _ h => h) (by rfl) ?y3 ?r3
  case y3 => (intro w9q hSwq; clear hSwq; go_simp; with_reducible rfl)
  try simp only [Act.put, List.setIfInBounds_toArray, List.set_cons_zero, List.set_cons_succ]
  refine restu_got (i := 3) (v := ?v4) rfl (by kernel_rfl) (by kernel_rfl) (by kernel_rfl) (by rfl) (fun _ _ _ h => h) (by rfl) ?y4 ?r4
  case y4 => (intro w9q hSwq; clear hSwq; go_simp; with_reducible rfl)
  try simp only [Act.put, List.setIfInBounds_toArray, List.set_cons_zero, List.set_cons_succ]
  refine restu_got (i := 4) (v := ?v5) rfl (by kernel_rfl) (by kernel_rfl) (by kernel_rfl) (by rfl) (fun _ _ _ h => h) (by rfl) ?y5 ?r5
  case y5 => (intro w9q hSwq; clear hSwq; go_simp; with_reducible rfl)
  try simp only [Act.put, List.setIfInBounds_toArray, List.set_cons_zero, List.set_cons_succ]
  refine restu_got (i := 5) (v := ?v6) rfl (by kernel_rfl) (by kernel_rfl) (by kernel_rfl) (by rfl) (fun _ _ _ h => h) (by rfl) ?y6 ?r6
  case y6 => (intro w9q hSwq; clear hSwq; go_simp; with_reducible rfl)
  try simp only [Act.put, List.setIfInBounds_toArray, List.set_cons_zero, List.set_cons_succ]
  refine restu_got (i := 6) (v := ?v7) rfl (by kernel_rfl) (by kernel_rfl) (by kernel_rfl) (by rfl) (fun _ _ _ h => h) (by rfl) ?y7 ?r7
  case y7 => (intro w9q hSwq; clear hSwq; go_simp; with_reducible rfl)
  try simp only [Act.put, List.setIfInBounds_toArray, List.set_cons_zero, List.set_cons_succ]
  refine restu_early (i := 7) [12, 13, 14, 15] (v := ?v8) rfl (by kernel_rfl) (by kernel_rfl) (by kernel_rfl) (by rfl) (by kernel_rfl) (by rfl) (by kernel_rfl) (fun _ _ _ h => h) (by rfl) ?y8 ?r8
  case y8 => ((intro w9' hm9'; have hc9' := Mod.cell hm9' CjS.out (by first | exact List.not_mem_nil | assumption | (simp; done) | (simp; omega)); clear hm9'; go_simp; with_reducible rfl))
  try simp only [Act.put, List.setIfInBounds_toArray, List.set_cons_zero, List.set_cons_succ]
  refine restu_got (i := 8) (v := ?v9) rfl (by kernel_rfl) (by kernel_rfl) (by kernel_rfl) (by rfl) (fun _ _ _ h => h) (by rfl) ?y9 ?r9
  case y9 => (intro w9q hSwq; clear hSwq; go_simp; with_reducible rfl)
  try simp only [Act.put, List.setIfInBounds_toArray, List.set_cons_zero, List.set_cons_succ]
  refine restu_got (i := 9) (v := ?v10) rfl (by kernel_rfl) (by kernel_rfl) (by kernel_rfl) (by rfl) (fun _ _ _ h => h) (by rfl) ?y10 ?r10
  case y10 => (intro w9q hSwq; clear hSwq; go_simp; with_reducible rfl)
  try simp only [Act.put, List.setIfInBounds_toArray, List.set_cons_zero, List.set_cons_succ]
  refine restu_got (i := 10) (v := ?v11) rfl (by kernel_rfl) (by kernel_rfl) (by kernel_rfl) (by rfl) (fun _ _ _ h => h) (by rfl) ?y11 ?r11
  case y11 => (intro w9q hSwq; clear hSwq; go_simp; with_reducible rfl)
  try simp only [Act.put, List.setIfInBounds_toArray, List.set_cons_zero, List.set_cons_succ]
  refine restu_early (i := 11) [12, 13, 14, 15] (v := ?v12) rfl (by kernel_rfl) (by kernel_rfl) (by kernel_rfl) (by rfl) (by kernel_rfl) (by rfl) (by kernel_rfl) (fun _ _ _ h => h) (by rfl) ?y12 ?r12
  case y12 => ((intro w9' hm9'; have hc9' := Mod.cell hm9' CiS.out (by first | exact List.not_mem_nil | assumption | (simp; done) | (simp; omega)); clear hm9'; go_simp; with_reducible rfl))
  try simp only [Act.put, List.setIfInBounds_toArray, List.set_cons_zero, List.set_cons_succ]
  refine restu_got (i := 12) (v := ?v13) rfl (by kernel_rfl) (by kernel_rfl) (by kernel_rfl) (by rfl) (fun _ _ _ h => h) (by rfl) ?y13 ?r13
  case y13 => (intro w9q hSwq; clear hSwq; go_simp; with_reducible rfl)
  try simp only [Act.put, List.setIfInBounds_toArray, List.set_cons_zero, List.set_cons_succ]
  refine restu_one (i := 13) (by kernel_rfl) rfl (by rfl) ?_
  have ciS := (RvS.out.at' HBIS).1
  have fiS := (RvS.out.at' HBIS).2
  go_wp2_with fail
  have RaS := Lib.hid (RvS.out.set a xjS)
  have naS : Mod [g] vS (vS.setCell ⟨g, a, none⟩ (.int .u32 (xjS : Int))) := Mod.setCell _ _ _ (by simp)
  have NaS := Lib.hid (NvS.out.nil.trans' naS)
  have RbS := Lib.hid (RvS.out.swp HSIS.out HSJS.out)
  refine backm_to (K1 := [g]) (by kernel_rfl) naS (fun _ h _ => h) ?_
  clear naS ciS fiS CiS CjS NvS RvS
  refine rest_got (i := 14) (v := ?v14) rfl (by kernel_rfl) (by kernel_rfl) (by kernel_rfl) (fun _ _ _ h => h) (by rfl) ?y14 ?r14
  case y14 => (intro w9q hSwq; clear hSwq; go_simp; with_reducible rfl)
  try simp only [Act.put, List.setIfInBounds_toArray, List.set_cons_zero, List.set_cons_succ]
  refine rest_one (i := 15) (by kernel_rfl) rfl (by rfl) ?_
  have cjS := (RaS.out.at' (i := pv) (by rw [Array.size_setIfInBounds]; exact HBJS)).1
  have fjS := (RaS.out.at' (i := pv) (by rw [Array.size_setIfInBounds]; exact HBJS)).2
  go_wp2_with fail
  have nbS : Mod [g] (vS.setCell ⟨g, a, none⟩ (.int .u32 (xjS : Int))) ((vS.setCell ⟨g, a, none⟩ (.int .u32 (xjS : Int))).setCell ⟨g, pv, none⟩ (.int .u32 (xiS : Int))) := Mod.setCell _ _ _ (by simp)
  have MS := Lib.hid (NaS.out.trans' nbS)
  have RS := Lib.hid RbS.out
  refine back_to (K1 := []) nbS (by simp) ?_
  clear nbS cjS fjS NaS RaS RbS HSIS HSJS
  refine rest_done (by kernel_rfl) ?_ _
  rw [HD1.out] at RS
  have HN1 : Hid (d1.size = n) := Lib.hid (by rw [← HD1.out, size_swp, HN0.out])
  obtain ⟨wS, hwS⟩ : ∃ x, (vS.setCell ⟨g, a, none⟩ (.int .u32 (xjS : Int))).setCell ⟨g, pv, none⟩ (.int .u32 (xiS : Int)) = x := ⟨_, rfl⟩
  rw [hwS] at RS MS ⊢
  clear hwS
  clear HR0
  go_wp2
  go_loopw [10] (fun s10 wr => ∃ ix : Nat, a + 1 ≤ ix ∧ ix ≤ b1 + 1 ∧ (a + 1) ≤ ix ∧ s10 = .int .i64 (ix : Int) ∧ Sort.scanUp p1 d1 b1 ix = IA ∧ Mod [] wS wr) (fun s10 _ => b - (RowKit.intOf s10).toNat)
  case atStart => exact ⟨_, Nat.le_refl _, by omega, Nat.le_refl _, by first | rfl | go_num, HI.out, Mod.refl _ _⟩
  case round =>
    rename World => wrA
    obtain ⟨iA, haiA, hibA, hstA, rfl, hIA, hmA⟩ := hrel
    have HIA2 := Lib.hid hIA
    have HMA := Lib.hid hmA
    have HRA := Lib.hid (RS.out.mod0 hmA)
    clear hIA hmA
    obtain ⟨blAc, hblAc⟩ : ∃ q, (decide (iA ≤ b1) && ltN (d1)[iA]! (d1)[a]!) = q := ⟨_, rfl⟩
    have HCA := Lib.hid hblAc
    clear hblAc
    go_upto_region 3 with (fail)
    go_cut [43] from 30 to 44 (fun s wx => s = .bool blAc ∧ Mod [] wrA wx)
    case first =>
      by_cases hgA : iA ≤ b1
      · have DGA : decide (iA ≤ b1) = true := decide_eq_true (by omega)
        have BiA : (iA : Int) < (n : Int) := by omega
        obtain ⟨xA, hxA⟩ : ∃ q, (d1)[iA]! = q := ⟨_, rfl⟩
        obtain ⟨yA, hyA⟩ : ∃ q, (d1)[a]! = q := ⟨_, rfl⟩
        have CXA := Lib.hid (HRA.out.cell (i := iA) (by rw [HN1.out]; omega) hxA)
        have CYA := Lib.hid (HRA.out.cell (i := a) (by rw [HN1.out]; omega) hyA)
        obtain ⟨blA, hblA⟩ : ∃ q, ltN xA yA = q := ⟨_, rfl⟩
        have HLA := Lib.hid (less_any xA yA blA hblA)
        have HBA : Hid (ltN (d1)[iA]! (d1)[a]! = blA) := Lib.hid (by rw [hxA, hyA]; exact hblA)
        clear hxA hyA hblA
        refine rest_start [] 14 #[false, false, false, false, false, false, false, false, false, false, false, false, false, false] rfl (by kernel_rfl) (by kernel_rfl) ?_
        intro uA mA
        have CXA6 := Lib.hid (mA.cell CXA.out List.not_mem_nil)
        have CYA6 := Lib.hid (mA.cell CYA.out List.not_mem_nil)
        have NA := Lib.hid mA
        have HLA6 := Lib.hid (HLA.out uA)
        clear mA
        refine rest_got (i := 0) (v := ?v15) rfl (by kernel_rfl) (by kernel_rfl) (by kernel_rfl) (fun _ _ _ h => h) (by rfl) ?y15 ?r15
        case y15 => (intro w9q hSwq; clear hSwq; go_simp; with_reducible rfl)
        try simp only [Act.put, List.setIfInBounds_toArray, List.set_cons_zero, List.set_cons_succ]
        refine rest_got (i := 1) (v := ?v16) rfl (by kernel_rfl) (by kernel_rfl) (by kernel_rfl) (fun _ _ _ h => h) (by rfl) ?y16 ?r16
        case y16 => (intro w9q hSwq; clear hSwq; go_simp; with_reducible rfl)
        try simp only [Act.put, List.setIfInBounds_toArray, List.set_cons_zero, List.set_cons_succ]
        refine rest_got (i := 2) (v := ?v17) rfl (by kernel_rfl) (by kernel_rfl) (by kernel_rfl) (fun _ _ _ h => h) (by rfl) ?y17 ?r17
        case y17 => (intro w9q hSwq; clear hSwq; go_simp; with_reducible rfl)
        try simp only [Act.put, List.setIfInBounds_toArray, List.set_cons_zero, List.set_cons_succ]
        refine rest_got (i := 3) (v := ?v18) rfl (by kernel_rfl) (by kernel_rfl) (by kernel_rfl) (fun _ _ _ h => h) (by rfl) ?y18 ?r18
        case y18 => (intro w9q hSwq; clear hSwq; go_simp; with_reducible rfl)
        try simp only [Act.put, List.setIfInBounds_toArray, List.set_cons_zero, List.set_cons_succ]
        refine rest_got (i := 4) (v := ?v19) rfl (by kernel_rfl) (by kernel_rfl) (by kernel_rfl) (fun _ _ _ h => h) (by rfl) ?y19 ?r19
        case y19 => (intro w9q hSwq; clear hSwq; go_simp; with_reducible rfl)
        try simp only [Act.put, List.setIfInBounds_toArray, List.set_cons_zero, List.set_cons_succ]
        refine rest_got (i := 5) (v := ?v20) rfl (by kernel_rfl) (by kernel_rfl) (by kernel_rfl) (fun _ _ _ h => h) (by rfl) ?y20 ?r20
        case y20 => (intro w9q hSwq; clear hSwq; go_simp; with_reducible rfl)
        try simp only [Act.put, List.setIfInBounds_toArray, List.set_cons_zero, List.set_cons_succ]
        refine rest_got (i := 6) (v := ?v21) rfl (by kernel_rfl) (by kernel_rfl) (by kernel_rfl) (fun _ _ _ h => h) (by rfl) ?y21 ?r21
        case y21 => (intro w9q hSwq; clear hSwq; go_simp; with_reducible rfl)
        try simp only [Act.put, List.setIfInBounds_toArray, List.set_cons_zero, List.set_cons_succ]
        refine rest_got (i := 7) (v := ?v22) rfl (by kernel_rfl) (by kernel_rfl) (by kernel_rfl) (fun _ _ _ h => h) (by rfl) ?y22 ?r22
        case y22 => ((intro w9' hm9'; have hc9' := Mod.cell hm9' CXA6.out (by first | exact List.not_mem_nil | assumption | (simp; done) | (simp; omega)); clear hm9'; go_simp; with_reducible rfl))
        try simp only [Act.put, List.setIfInBounds_toArray, List.set_cons_zero, List.set_cons_succ]
        refine rest_got (i := 8) (v := ?v23) rfl (by kernel_rfl) (by kernel_rfl) (by kernel_rfl) (fun _ _ _ h => h) (by rfl) ?y23 ?r23
        case y23 => (intro w9q hSwq; clear hSwq; go_simp; with_reducible rfl)
        try simp only [Act.put, List.setIfInBounds_toArray, List.set_cons_zero, List.set_cons_succ]
        refine rest_got (i := 9) (v := ?v24) rfl (by kernel_rfl) (by kernel_rfl) (by kernel_rfl) (fun _ _ _ h => h) (by rfl) ?y24 ?r24
        case y24 => (intro w9q hSwq; clear hSwq; go_simp; with_reducible rfl)
        try simp only [Act.put, List.setIfInBounds_toArray, List.set_cons_zero, List.set_cons_succ]
        refine rest_got (i := 10) (v := ?v25) rfl (by kernel_rfl) (by kernel_rfl) (by kernel_rfl) (fun _ _ _ h => h) (by rfl) ?y25 ?r25
        case y25 => (intro w9q hSwq; clear hSwq; go_simp; with_reducible rfl)
        try simp only [Act.put, List.setIfInBounds_toArray, List.set_cons_zero, List.set_cons_succ]
        refine rest_got (i := 11) (v := ?v26) rfl (by kernel_rfl) (by kernel_rfl) (by kernel_rfl) (fun _ _ _ h => h) (by rfl) ?y26 ?r26
        case y26 => ((intro w9' hm9'; have hc9' := Mod.cell hm9' CYA6.out (by first | exact List.not_mem_nil | assumption | (simp; done) | (simp; omega)); clear hm9'; go_simp; with_reducible rfl))
        try simp only [Act.put, List.setIfInBounds_toArray, List.set_cons_zero, List.set_cons_succ]
        refine rest_one (i := 12) (by kernel_rfl) rfl (by rfl) ?_
        go_wp2_with fail
        refine HLA6.out.mono ?_
        rintro e wA ⟨rfl, rfl⟩
        go_wp2_with fail
        refine back_to (K1 := []) (Mod.refl _ _) (by simp) ?_
        clear HLA6 CXA6 CYA6
        refine rest_got (i := 13) (v := ?v27) rfl (by kernel_rfl) (by kernel_rfl) (by kernel_rfl) (fun _ _ _ h => h) (by rfl) ?y27 ?r27
        case y27 => (intro w9q hSwq; clear hSwq; go_simp; with_reducible rfl)
        try simp only [Act.put, List.setIfInBounds_toArray, List.set_cons_zero, List.set_cons_succ]
        refine rest_done (by kernel_rfl) ?_ _
        have RA := Lib.hid (HRA.out.mod0 NA.out)
        have MA := Lib.hid NA.out
        clear NA CXA CYA HLA
        go_wp2
        go_meet
        exact ⟨by rw [← HCA.out, HBA.out, decide_eq_true hgA]; cases blA <;> rfl, MA.out⟩
      · have DGA : decide (iA ≤ b1) = false := decide_eq_false (by omega)
        refine rest_start [] 14 #[false, false, false, false, false, false, false, false, false, false, false, false, false, false] rfl (by kernel_rfl) (by kernel_rfl) ?_
        intro uA mA
        have NA := Lib.hid mA
        clear mA
        refine rest_got (i := 0) (v := ?v28) rfl (by kernel_rfl) (by kernel_rfl) (by kernel_rfl) (fun _ _ _ h => h) (by rfl) ?y28 ?r28
        case y28 => (intro w9q hSwq; clear hSwq; go_simp; with_reducible rfl)
        try simp only [Act.put, List.setIfInBounds_toArray, List.set_cons_zero, List.set_cons_succ]
        refine rest_got (i := 1) (v := ?v29) rfl (by kernel_rfl) (by kernel_rfl) (by kernel_rfl) (fun _ _ _ h => h) (by rfl) ?y29 ?r29
        case y29 => (intro w9q hSwq; clear hSwq; go_simp; with_reducible rfl)
        try simp only [Act.put, List.setIfInBounds_toArray, List.set_cons_zero, List.set_cons_succ]
        refine rest_got (i := 2) (v := ?v30) rfl (by kernel_rfl) (by kernel_rfl) (by kernel_rfl) (fun _ _ _ h => h) (by rfl) ?y30 ?r30
        case y30 => (intro w9q hSwq; clear hSwq; go_simp; with_reducible rfl)
        try simp only [Act.put, List.setIfInBounds_toArray, List.set_cons_zero, List.set_cons_succ]
        refine rest_got (i := 3) (v := ?v31) rfl (by kernel_rfl) (by kernel_rfl) (by kernel_rfl) (fun _ _ _ h => h) (by rfl) ?y31 ?r31
        case y31 => (intro w9q hSwq; clear hSwq; go_simp; with_reducible rfl)
        try simp only [Act.put, List.setIfInBounds_toArray, List.set_cons_zero, List.set_cons_succ]
        refine rest_skip (i := 4) rfl (by kernel_rfl) (by kernel_rfl) (by kernel_rfl) (fun _ _ _ h => h) (by rfl) ?_
        try simp only [Act.put, List.setIfInBounds_toArray, List.set_cons_zero, List.set_cons_succ]
        refine rest_skip (i := 5) rfl (by kernel_rfl) (by kernel_rfl) (by kernel_rfl) (fun _ _ _ h => h) (by rfl) ?_
        try simp only [Act.put, List.setIfInBounds_toArray, List.set_cons_zero, List.set_cons_succ]
        refine rest_skip (i := 6) rfl (by kernel_rfl) (by kernel_rfl) (by kernel_rfl) (fun _ _ _ h => h) (by rfl) ?_
        try simp only [Act.put, List.setIfInBounds_toArray, List.set_cons_zero, List.set_cons_succ]
        refine rest_skip (i := 7) rfl (by kernel_rfl) (by kernel_rfl) (by kernel_rfl) (fun _ _ _ h => h) (by rfl) ?_
        try simp only [Act.put, List.setIfInBounds_toArray, List.set_cons_zero, List.set_cons_succ]
        refine rest_skip (i := 8) rfl (by kernel_rfl) (by kernel_rfl) (by kernel_rfl) (fun _ _ _ h => h) (by rfl) ?_
        try simp only [Act.put, List.setIfInBounds_toArray, List.set_cons_zero, List.set_cons_succ]
        refine rest_skip (i := 9) rfl (by kernel_rfl) (by kernel_rfl) (by kernel_rfl) (fun _ _ _ h => h) (by rfl) ?_
        try simp only [Act.put, List.setIfInBounds_toArray, List.set_cons_zero, List.set_cons_succ]
        refine rest_skip (i := 10) rfl (by kernel_rfl) (by kernel_rfl) (by kernel_rfl) (fun _ _ _ h => h) (by rfl) ?_
        try simp only [Act.put, List.setIfInBounds_toArray, List.set_cons_zero, List.set_cons_succ]
        refine rest_skip (i := 11) rfl (by kernel_rfl) (by kernel_rfl) (by kernel_rfl) (fun _ _ _ h => h) (by rfl) ?_
        try simp only [Act.put, List.setIfInBounds_toArray, List.set_cons_zero, List.set_cons_succ]
        refine rest_skip (i := 12) rfl (by kernel_rfl) (by kernel_rfl) (by kernel_rfl) (fun _ _ _ h => h) (by rfl) ?_
        try simp only [Act.put, List.setIfInBounds_toArray, List.set_cons_zero, List.set_cons_succ]
        refine rest_got (i := 13) (v := ?v32) rfl (by kernel_rfl) (by kernel_rfl) (by kernel_rfl) (fun _ _ _ h => h) (by rfl) ?y32 ?r32
        case y32 => (intro w9q hSwq; clear hSwq; go_simp; with_reducible rfl)
        try simp only [Act.put, List.setIfInBounds_toArray, List.set_cons_zero, List.set_cons_succ]
        refine rest_done (by kernel_rfl) ?_ _
        go_wp2
        go_meet
        exact ⟨by rw [← HCA.out, decide_eq_false hgA]; rfl, NA.out⟩
    rename World => wAc
    obtain ⟨rfl, hmAc⟩ := hcut
    have MCA := Lib.hid hmAc
    have RCA := Lib.hid (HRA.out.mod0 hmAc)
    clear hmAc
    cases blAc with
    | true =>
      have HIA3 := Lib.hid ((scanUp_go (p := p1) (by rw [HP1.out]; exact HCA.out)).symm.trans HIA2.out)
      have hijA : iA ≤ b1 := by have := HCA.out; rw [Bool.and_eq_true, decide_eq_true_eq] at this; exact this.1
      go_wp2
      go_roundw
      case rel => exact ⟨iA + 1, by omega, by omega, by omega, by go_num, HIA3.out, HMA.out.trans' MCA.out⟩
      case measure => first | (simp [RowKit.intOf]; done) | (simp [RowKit.intOf]; omega)
    | false =>
      have hiiA : iA = IA := (scanUp_stop (p := p1) (by rw [HP1.out]; exact HCA.out)).symm.trans HIA2.out
      subst hiiA
      clear HIA2 HCA
      have HMAi := Lib.hid (HMA.out.trans' MCA.out)
      clear HMA MCA HRA
      go_wp2
      go_loopw [11] (fun s11 wr => ∃ jx : Nat, jx ≤ b1 ∧ jx ≤ b1 ∧ s11 = .int .i64 (jx : Int) ∧ Sort.scanDown p2 d1 iA jx = JB ∧ Mod [] wAc wr) (fun s11 _ => (RowKit.intOf s11).toNat)
      case atStart => exact ⟨_, by omega, Nat.le_refl _, rfl, HJ.out, Mod.refl _ _⟩
      case round =>
        rename World => wrB
        obtain ⟨jB, hjbB, hstB, rfl, hJB, hmB⟩ := hrel
        have HJB2 := Lib.hid hJB
        have HMB := Lib.hid hmB
        have HRB := Lib.hid (RCA.out.mod0 hmB)
        clear hJB hmB
        obtain ⟨blBc, hblBc⟩ : ∃ q, (decide (iA ≤ jB) && !ltN (d1)[jB]! (d1)[a]!) = q := ⟨_, rfl⟩
        have HCB := Lib.hid hblBc
        clear hblBc
        go_upto_region 5 with (fail)
        go_cut [60] from 46 to 61 (fun s wx => s = .bool blBc ∧ Mod [] wrB wx)
        case first =>
          by_cases hgB : iA ≤ jB
          · have DGB : decide (iA ≤ jB) = true := decide_eq_true (by omega)
            have BjB : (jB : Int) < (n : Int) := by omega
            obtain ⟨xB, hxB⟩ : ∃ q, (d1)[jB]! = q := ⟨_, rfl⟩
            obtain ⟨yB, hyB⟩ : ∃ q, (d1)[a]! = q := ⟨_, rfl⟩
            have CXB := Lib.hid (HRB.out.cell (i := jB) (by rw [HN1.out]; omega) hxB)
            have CYB := Lib.hid (HRB.out.cell (i := a) (by rw [HN1.out]; omega) hyB)
            obtain ⟨blB, hblB⟩ : ∃ q, ltN xB yB = q := ⟨_, rfl⟩
            have HLB := Lib.hid (less_any xB yB blB hblB)
            have HBB : Hid (ltN (d1)[jB]! (d1)[a]! = blB) := Lib.hid (by rw [hxB, hyB]; exact hblB)
            clear hxB hyB hblB
            refine rest_start [] 15 #[false, false, false, false, false, false, false, false, false, false, false, false, false, false, false] rfl (by kernel_rfl) (by kernel_rfl) ?_
            intro uB mB
            have CXB6 := Lib.hid (mB.cell CXB.out List.not_mem_nil)
            have CYB6 := Lib.hid (mB.cell CYB.out List.not_mem_nil)
            have NB := Lib.hid mB
            have HLB6 := Lib.hid (HLB.out uB)
            clear mB
            refine rest_got (i := 0) (v := ?v33) rfl (by kernel_rfl) (by kernel_rfl) (by kernel_rfl) (fun _ _ _ h => h) (by rfl) ?y33 ?r33
            case y33 => (intro w9q hSwq; clear hSwq; go_simp; with_reducible rfl)
            try simp only [Act.put, List.setIfInBounds_toArray, List.set_cons_zero, List.set_cons_succ]
            refine rest_got (i := 1) (v := ?v34) rfl (by kernel_rfl) (by kernel_rfl) (by kernel_rfl) (fun _ _ _ h => h) (by rfl) ?y34 ?r34
            case y34 => (intro w9q hSwq; clear hSwq; go_simp; with_reducible rfl)
            try simp only [Act.put, List.setIfInBounds_toArray, List.set_cons_zero, List.set_cons_succ]
            refine rest_got (i := 2) (v := ?v35) rfl (by kernel_rfl) (by kernel_rfl) (by kernel_rfl) (fun _ _ _ h => h) (by rfl) ?y35 ?r35
            case y35 => (intro w9q hSwq; clear hSwq; go_simp; with_reducible rfl)
            try simp only [Act.put, List.setIfInBounds_toArray, List.set_cons_zero, List.set_cons_succ]
            refine rest_got (i := 3) (v := ?v36) rfl (by kernel_rfl) (by kernel_rfl) (by kernel_rfl) (fun _ _ _ h => h) (by rfl) ?y36 ?r36
            case y36 => (intro w9q hSwq; clear hSwq; go_simp; with_reducible rfl)
            try simp only [Act.put, List.setIfInBounds_toArray, List.set_cons_zero, List.set_cons_succ]
            refine rest_got (i := 4) (v := ?v37) rfl (by kernel_rfl) (by kernel_rfl) (by kernel_rfl) (fun _ _ _ h => h) (by rfl) ?y37 ?r37
            case y37 => (intro w9q hSwq; clear hSwq; go_simp; with_reducible rfl)
            try simp only [Act.put, List.setIfInBounds_toArray, List.set_cons_zero, List.set_cons_succ]
            refine rest_got (i := 5) (v := ?v38) rfl (by kernel_rfl) (by kernel_rfl) (by kernel_rfl) (fun _ _ _ h => h) (by rfl) ?y38 ?r38
            case y38 => (intro w9q hSwq; clear hSwq; go_simp; with_reducible rfl)
            try simp only [Act.put, List.setIfInBounds_toArray, List.set_cons_zero, List.set_cons_succ]
            refine rest_got (i := 6) (v := ?v39) rfl (by kernel_rfl) (by kernel_rfl) (by kernel_rfl) (fun _ _ _ h => h) (by rfl) ?y39 ?r39
            case y39 => (intro w9q hSwq; clear hSwq; go_simp; with_reducible rfl)
            try simp only [Act.put, List.setIfInBounds_toArray, List.set_cons_zero, List.set_cons_succ]
            refine rest_got (i := 7) (v := ?v40) rfl (by kernel_rfl) (by kernel_rfl) (by kernel_rfl) (fun _ _ _ h => h) (by rfl) ?y40 ?r40
            case y40 => ((intro w9' hm9'; have hc9' := Mod.cell hm9' CXB6.out (by first | exact List.not_mem_nil | assumption | (simp; done) | (simp; omega)); clear hm9'; go_simp; with_reducible rfl))
            try simp only [Act.put, List.setIfInBounds_toArray, List.set_cons_zero, List.set_cons_succ]
            refine rest_got (i := 8) (v := ?v41) rfl (by kernel_rfl) (by kernel_rfl) (by kernel_rfl) (fun _ _ _ h => h) (by rfl) ?y41 ?r41
            case y41 => (intro w9q hSwq; clear hSwq; go_simp; with_reducible rfl)
            try simp only [Act.put, List.setIfInBounds_toArray, List.set_cons_zero, List.set_cons_succ]
            refine rest_got (i := 9) (v := ?v42) rfl (by kernel_rfl) (by kernel_rfl) (by kernel_rfl) (fun _ _ _ h => h) (by rfl) ?y42 ?r42
            case y42 => (intro w9q hSwq; clear hSwq; go_simp; with_reducible rfl)
            try simp only [Act.put, List.setIfInBounds_toArray, List.set_cons_zero, List.set_cons_succ]
            refine rest_got (i := 10) (v := ?v43) rfl (by kernel_rfl) (by kernel_rfl) (by kernel_rfl) (fun _ _ _ h => h) (by rfl) ?y43 ?r43
            case y43 => (intro w9q hSwq; clear hSwq; go_simp; with_reducible rfl)
            try simp only [Act.put, List.setIfInBounds_toArray, List.set_cons_zero, List.set_cons_succ]
            refine rest_got (i := 11) (v := ?v44) rfl (by kernel_rfl) (by kernel_rfl) (by kernel_rfl) (fun _ _ _ h => h) (by rfl) ?y44 ?r44
            case y44 => ((intro w9' hm9'; have hc9' := Mod.cell hm9' CYB6.out (by first | exact List.not_mem_nil | assumption | (simp; done) | (simp; omega)); clear hm9'; go_simp; with_reducible rfl))
            try simp only [Act.put, List.setIfInBounds_toArray, List.set_cons_zero, List.set_cons_succ]
            refine rest_one (i := 12) (by kernel_rfl) rfl (by rfl) ?_
            go_wp2_with fail
            refine HLB6.out.mono ?_
            rintro e wB ⟨rfl, rfl⟩
            go_wp2_with fail
            refine back_to (K1 := []) (Mod.refl _ _) (by simp) ?_
            clear HLB6 CXB6 CYB6
            refine rest_got (i := 13) (v := ?v45) rfl (by kernel_rfl) (by kernel_rfl) (by kernel_rfl) (fun _ _ _ h => h) (by rfl) ?y45 ?r45
            case y45 => (intro w9q hSwq; clear hSwq; go_simp; with_reducible rfl)
            try simp only [Act.put, List.setIfInBounds_toArray, List.set_cons_zero, List.set_cons_succ]
            refine rest_got (i := 14) (v := ?v46) rfl (by kernel_rfl) (by kernel_rfl) (by kernel_rfl) (fun _ _ _ h => h) (by rfl) ?y46 ?r46
            case y46 => (intro w9q hSwq; clear hSwq; go_simp; with_reducible rfl)
            try simp only [Act.put, List.setIfInBounds_toArray, List.set_cons_zero, List.set_cons_succ]
            refine rest_done (by kernel_rfl) ?_ _
            have RB := Lib.hid (HRB.out.mod0 NB.out)
            have MB := Lib.hid NB.out
            clear NB CXB CYB HLB
            go_wp2
            go_meet
            exact ⟨by rw [← HCB.out, HBB.out, decide_eq_true hgB]; cases blB <;> rfl, MB.out⟩
          · have DGB : decide (iA ≤ jB) = false := decide_eq_false (by omega)
            refine rest_start [] 15 #[false, false, false, false, false, false, false, false, false, false, false, false, false, false, false] rfl (by kernel_rfl) (by kernel_rfl) ?_
            intro uB mB
            have NB := Lib.hid mB
            clear mB
            refine rest_got (i := 0) (v := ?v47) rfl (by kernel_rfl) (by kernel_rfl) (by kernel_rfl) (fun _ _ _ h => h) (by rfl) ?y47 ?r47
            case y47 => (intro w9q hSwq; clear hSwq; go_simp; with_reducible rfl)
            try simp only [Act.put, List.setIfInBounds_toArray, List.set_cons_zero, List.set_cons_succ]
            refine rest_got (i := 1) (v := ?v48) rfl (by kernel_rfl) (by kernel_rfl) (by kernel_rfl) (fun _ _ _ h => h) (by rfl) ?y48 ?r48
            case y48 => (intro w9q hSwq; clear hSwq; go_simp; with_reducible rfl)
            try simp only [Act.put, List.setIfInBounds_toArray, List.set_cons_zero, List.set_cons_succ]
            refine rest_got (i := 2) (v := ?v49) rfl (by kernel_rfl) (by kernel_rfl) (by kernel_rfl) (fun _ _ _ h => h) (by rfl) ?y49 ?r49
            case y49 => (intro w9q hSwq; clear hSwq; go_simp; with_reducible rfl)
            try simp only [Act.put, List.setIfInBounds_toArray, List.set_cons_zero, List.set_cons_succ]
            refine rest_got (i := 3) (v := ?v50) rfl (by kernel_rfl) (by kernel_rfl) (by kernel_rfl) (fun _ _ _ h => h) (by rfl) ?y50 ?r50
            case y50 => (intro w9q hSwq; clear hSwq; go_simp; with_reducible rfl)
            try simp only [Act.put, List.setIfInBounds_toArray, List.set_cons_zero, List.set_cons_succ]
            refine rest_skip (i := 4) rfl (by kernel_rfl) (by kernel_rfl) (by kernel_rfl) (fun _ _ _ h => h) (by rfl) ?_
            try simp only [Act.put, List.setIfInBounds_toArray, List.set_cons_zero, List.set_cons_succ]
            refine rest_skip (i := 5) rfl (by kernel_rfl) (by kernel_rfl) (by kernel_rfl) (fun _ _ _ h => h) (by rfl) ?_
            try simp only [Act.put, List.setIfInBounds_toArray, List.set_cons_zero, List.set_cons_succ]
            refine rest_skip (i := 6) rfl (by kernel_rfl) (by kernel_rfl) (by kernel_rfl) (fun _ _ _ h => h) (by rfl) ?_
            try simp only [Act.put, List.setIfInBounds_toArray, List.set_cons_zero, List.set_cons_succ]
            refine rest_skip (i := 7) rfl (by kernel_rfl) (by kernel_rfl) (by kernel_rfl) (fun _ _ _ h => h) (by rfl) ?_
            try simp only [Act.put, List.setIfInBounds_toArray, List.set_cons_zero, List.set_cons_succ]
            refine rest_skip (i := 8) rfl (by kernel_rfl) (by kernel_rfl) (by kernel_rfl) (fun _ _ _ h => h) (by rfl) ?_
            try simp only [Act.put, List.setIfInBounds_toArray, List.set_cons_zero, List.set_cons_succ]
            refine rest_skip (i := 9) rfl (by kernel_rfl) (by kernel_rfl) (by kernel_rfl) (fun _ _ _ h => h) (by rfl) ?_
            try simp only [Act.put, List.setIfInBounds_toArray, List.set_cons_zero, List.set_cons_succ]
            refine rest_skip (i := 10) rfl (by kernel_rfl) (by kernel_rfl) (by kernel_rfl) (fun _ _ _ h => h) (by rfl) ?_
            try simp only [Act.put, List.setIfInBounds_toArray, List.set_cons_zero, List.set_cons_succ]
            refine rest_skip (i := 11) rfl (by kernel_rfl) (by kernel_rfl) (by kernel_rfl) (fun _ _ _ h => h) (by rfl) ?_
            try simp only [Act.put, List.setIfInBounds_toArray, List.set_cons_zero, List.set_cons_succ]
            refine rest_skip (i := 12) rfl (by kernel_rfl) (by kernel_rfl) (by kernel_rfl) (fun _ _ _ h => h) (by rfl) ?_
            try simp only [Act.put, List.setIfInBounds_toArray, List.set_cons_zero, List.set_cons_succ]
            refine rest_skip (i := 13) rfl (by kernel_rfl) (by kernel_rfl) (by kernel_rfl) (fun _ _ _ h => h) (by rfl) ?_
            try simp only [Act.put, List.setIfInBounds_toArray, List.set_cons_zero, List.set_cons_succ]
            refine rest_got (i := 14) (v := ?v51) rfl (by kernel_rfl) (by kernel_rfl) (by kernel_rfl) (fun _ _ _ h => h) (by rfl) ?y51 ?r51
            case y51 => (intro w9q hSwq; clear hSwq; go_simp; with_reducible rfl)
            try simp only [Act.put, List.setIfInBounds_toArray, List.set_cons_zero, List.set_cons_succ]
            refine rest_done (by kernel_rfl) ?_ _
            go_wp2
            go_meet
            exact ⟨by rw [← HCB.out, decide_eq_false hgB]; rfl, NB.out⟩
        rename World => wBc
        obtain ⟨rfl, hmBc⟩ := hcut
        have MCB := Lib.hid hmBc
        have RCB := Lib.hid (HRB.out.mod0 hmBc)
        clear hmBc
        cases blBc with
        | true =>
          have HJB3 := Lib.hid ((scanDown_go (p := p2) (by omega) (by rw [HP2.out]; exact HCB.out)).symm.trans HJB2.out)
          have hijB : iA ≤ jB := by have := HCB.out; rw [Bool.and_eq_true, decide_eq_true_eq] at this; exact this.1
          obtain ⟨jmB, hjmB⟩ : ∃ q, jB - 1 = q := ⟨_, rfl⟩
          have ejmB : (jB : Int) - 1 = (jmB : Int) := by omega
          rw [hjmB] at HJB3
          go_wp2
          go_roundw
          case rel => exact ⟨jmB, by omega, by omega, by first | rfl | (congr 1; omega), HJB3.out, HMB.out.trans' MCB.out⟩
          case measure => first | (simp [RowKit.intOf]; done) | (simp [RowKit.intOf]; omega)
        | false =>
          have hjjB : jB = JB := (scanDown_stop (p := p2) (by rw [HP2.out]; exact HCB.out)).symm.trans HJB2.out
          subst hjjB
          clear HJB2 HCB
          have HMBj := Lib.hid (HMB.out.trans' MCB.out)
          clear HMB MCB HRB
          by_cases hji : jB < iA
          · have HPD := Lib.hid (HDONE.out hji)
            have DGG : decide (jB < iA) = true := decide_eq_true hji
            have BjB : (jB : Int) < (n : Int) := by omega
            clear HDONE HLOOP
            obtain ⟨xiT, hxiT⟩ : ∃ x, (d1)[jB]! = x := ⟨_, rfl⟩
            obtain ⟨xjT, hxjT⟩ : ∃ x, (d1)[a]! = x := ⟨_, rfl⟩
            have HSIT : Hid ((d1)[jB]! = xiT) := Lib.hid hxiT
            have HSJT : Hid ((d1)[a]! = xjT) := Lib.hid hxjT
            have HBIT : jB < (d1).size := by rw [HN1.out]; omega
            have HBJT : a < (d1).size := by rw [HN1.out]; omega
            clear hxiT hxjT
            go_upto_region 8 with (fail)
            refine restu_start 13 [] [g] 16 #[false, false, false, false, false, false, false, false, false, false, false, false, false, false, false, false] rfl (by kernel_rfl) (by kernel_rfl) ?_
            intro vT nT
            have RvT := Lib.hid (RCB.out.mod0 nT)
            have CiT := Lib.hid (RvT.out.cell HBIT HSIT.out)
            have CjT := Lib.hid (RvT.out.cell HBJT HSJT.out)
            have NvT := Lib.hid nT
            clear nT
            refine restu_got (i := 0) (v := ?v52) rfl (by kernel_rfl) (by kernel_rfl) (by kernel_rfl) (by rfl) (fun _ _ _ h => h) (by rfl) ?y52 ?r52
            case y52 => (intro w9q hSwq; clear hSwq; go_simp; with_reducible rfl)
            try simp only [Act.put, List.setIfInBounds_toArray, List.set_cons_zero, List.set_cons_succ]
            refine restu_got (i := 1) (v := ?v53) rfl (by kernel_rfl) (by kernel_rfl) (by kernel_rfl) (by rfl) (fun _ _ _ h => h) (by rfl) ?y53 ?r53
            case y53 => (intro w9q hSwq; clear hSwq; go_simp; with_reducible rfl)
            try simp only [Act.put, List.setIfInBounds_toArray, List.set_cons_zero, List.set_cons_succ]
            refine restu_got (i := 2) (v := ?v54) rfl (by kernel_rfl) (by kernel_rfl) (by kernel_rfl) (by rfl) (fun _ _ _ h => h) (by rfl) ?y54 ?r54
            case y54 => (intro w9q hSwq; clear hSwq; go_simp; with_reducible rfl)
            try simp only [Act.put, List.setIfInBounds_toArray, List.set_cons_zero, List.set_cons_succ]
            refine restu_got (i := 3) (v := ?v55) rfl (by kernel_rfl) (by kernel_rfl) (by kernel_rfl) (by rfl) (fun _ _ _ h => h) (by rfl) ?y55 ?r55
            case y55 => (intro w9q hSwq; clear hSwq; go_simp; with_reducible rfl)
            try simp only [Act.put, List.setIfInBounds_toArray, List.set_cons_zero, List.set_cons_succ]
            refine restu_got (i := 4) (v := ?v56) rfl (by kernel_rfl) (by kernel_rfl) (by kernel_rfl) (by rfl) (fun _ _ _ h => h) (by rfl) ?y56 ?r56
            case y56 => (intro w9q hSwq; clear hSwq; go_simp; with_reducible rfl)
            try simp only [Act.put, List.setIfInBounds_toArray, List.set_cons_zero, List.set_cons_succ]
            refine restu_got (i := 5) (v := ?v57) rfl (by kernel_rfl) (by kernel_rfl) (by kernel_rfl) (by rfl) (fun _ _ _ h => h) (by rfl) ?y57 ?r57
            case y57 => (intro w9q hSwq; clear hSwq; go_simp; with_reducible rfl)
            try simp only [Act.put, List.setIfInBounds_toArray, List.set_cons_zero, List.set_cons_succ]
            refine restu_got (i := 6) (v := ?v58) rfl (by kernel_rfl) (by kernel_rfl) (by kernel_rfl) (by rfl) (fun _ _ _ h => h) (by rfl) ?y58 ?r58
            case y58 => (intro w9q hSwq; clear hSwq; go_simp; with_reducible rfl)
            try simp only [Act.put, List.setIfInBounds_toArray, List.set_cons_zero, List.set_cons_succ]
            refine restu_early (i := 7) [12, 13, 14, 15] (v := ?v59) rfl (by kernel_rfl) (by kernel_rfl) (by kernel_rfl) (by rfl) (by kernel_rfl) (by rfl) (by kernel_rfl) (fun _ _ _ h => h) (by rfl) ?y59 ?r59
            case y59 => ((intro w9' hm9'; have hc9' := Mod.cell hm9' CjT.out (by first | exact List.not_mem_nil | assumption | (simp; done) | (simp; omega)); clear hm9'; go_simp; with_reducible rfl))
            try simp only [Act.put, List.setIfInBounds_toArray, List.set_cons_zero, List.set_cons_succ]
            refine restu_got (i := 8) (v := ?v60) rfl (by kernel_rfl) (by kernel_rfl) (by kernel_rfl) (by rfl) (fun _ _ _ h => h) (by rfl) ?y60 ?r60
            case y60 => (intro w9q hSwq; clear hSwq; go_simp; with_reducible rfl)
            try simp only [Act.put, List.setIfInBounds_toArray, List.set_cons_zero, List.set_cons_succ]
            refine restu_got (i := 9) (v := ?v61) rfl (by kernel_rfl) (by kernel_rfl) (by kernel_rfl) (by rfl) (fun _ _ _ h => h) (by rfl) ?y61 ?r61
            case y61 => (intro w9q hSwq; clear hSwq; go_simp; with_reducible rfl)
            try simp only [Act.put, List.setIfInBounds_toArray, List.set_cons_zero, List.set_cons_succ]
            refine restu_got (i := 10) (v := ?v62) rfl (by kernel_rfl) (by kernel_rfl) (by kernel_rfl) (by rfl) (fun _ _ _ h => h) (by rfl) ?y62 ?r62
            case y62 => (intro w9q hSwq; clear hSwq; go_simp; with_reducible rfl)
            try simp only [Act.put, List.setIfInBounds_toArray, List.set_cons_zero, List.set_cons_succ]
            refine restu_early (i := 11) [12, 13, 14, 15] (v := ?v63) rfl (by kernel_rfl) (by kernel_rfl) (by kernel_rfl) (by rfl) (by kernel_rfl) (by rfl) (by kernel_rfl) (fun _ _ _ h => h) (by rfl) ?y63 ?r63
            case y63 => ((intro w9' hm9'; have hc9' := Mod.cell hm9' CiT.out (by first | exact List.not_mem_nil | assumption | (simp; done) | (simp; omega)); clear hm9'; go_simp; with_reducible rfl))
            try simp only [Act.put, List.setIfInBounds_toArray, List.set_cons_zero, List.set_cons_succ]
            refine restu_got (i := 12) (v := ?v64) rfl (by kernel_rfl) (by kernel_rfl) (by kernel_rfl) (by rfl) (fun _ _ _ h => h) (by rfl) ?y64 ?r64
            case y64 => (intro w9q hSwq; clear hSwq; go_simp; with_reducible rfl)
            try simp only [Act.put, List.setIfInBounds_toArray, List.set_cons_zero, List.set_cons_succ]
            refine restu_one (i := 13) (by kernel_rfl) rfl (by rfl) ?_
            have ciT := (RvT.out.at' HBIT).1
            have fiT := (RvT.out.at' HBIT).2
            go_wp2_with fail
            have RaT := Lib.hid (RvT.out.set jB xjT)
            have naT : Mod [g] vT (vT.setCell ⟨g, jB, none⟩ (.int .u32 (xjT : Int))) := Mod.setCell _ _ _ (by simp)
            have NaT := Lib.hid (NvT.out.nil.trans' naT)
            have RbT := Lib.hid (RvT.out.swp HSIT.out HSJT.out)
            refine backm_to (K1 := [g]) (by kernel_rfl) naT (fun _ h _ => h) ?_
            clear naT ciT fiT CiT CjT NvT RvT
            refine rest_got (i := 14) (v := ?v65) rfl (by kernel_rfl) (by kernel_rfl) (by kernel_rfl) (fun _ _ _ h => h) (by rfl) ?y65 ?r65
            case y65 => (intro w9q hSwq; clear hSwq; go_simp; with_reducible rfl)
            try simp only [Act.put, List.setIfInBounds_toArray, List.set_cons_zero, List.set_cons_succ]
            refine rest_one (i := 15) (by kernel_rfl) rfl (by rfl) ?_
            have cjT := (RaT.out.at' (i := a) (by rw [Array.size_setIfInBounds]; exact HBJT)).1
            have fjT := (RaT.out.at' (i := a) (by rw [Array.size_setIfInBounds]; exact HBJT)).2
            go_wp2_with fail
            have nbT : Mod [g] (vT.setCell ⟨g, jB, none⟩ (.int .u32 (xjT : Int))) ((vT.setCell ⟨g, jB, none⟩ (.int .u32 (xjT : Int))).setCell ⟨g, a, none⟩ (.int .u32 (xiT : Int))) := Mod.setCell _ _ _ (by simp)
            have MT := Lib.hid (NaT.out.trans' nbT)
            have RT := Lib.hid RbT.out
            refine back_to (K1 := []) nbT (by simp) ?_
            clear nbT cjT fjT NaT RaT RbT HSIT HSJT
            refine rest_done (by kernel_rfl) ?_ _
            go_wp2
            go_ret2
            rw [HPD.out]
            exact ⟨rfl, RT.out, ((MS.out.trans0 HMAi.out).trans0 HMBj.out).trans' MT.out⟩
          · have DGG : decide (jB < iA) = false := decide_eq_false hji
            have BjB : (jB : Int) < (n : Int) := by omega
            have BiA : (iA : Int) < (n : Int) := by omega
            obtain ⟨xiT, hxiT⟩ : ∃ x, (d1)[iA]! = x := ⟨_, rfl⟩
            obtain ⟨xjT, hxjT⟩ : ∃ x, (d1)[jB]! = x := ⟨_, rfl⟩
            have HSIT : Hid ((d1)[iA]! = xiT) := Lib.hid hxiT
            have HSJT : Hid ((d1)[jB]! = xjT) := Lib.hid hxjT
            have HBIT : iA < (d1).size := by rw [HN1.out]; omega
            have HBJT : jB < (d1).size := by rw [HN1.out]; omega
            clear hxiT hxjT
            go_upto_region 10 with (fail)
            refine restu_start 13 [] [g] 16 #[false, false, false, false, false, false, false, false, false, false, false, false, false, false, false, false] rfl (by kernel_rfl) (by kernel_rfl) ?_
            intro vT nT
            have RvT := Lib.hid (RCB.out.mod0 nT)
            have CiT := Lib.hid (RvT.out.cell HBIT HSIT.out)
            have CjT := Lib.hid (RvT.out.cell HBJT HSJT.out)
            have NvT := Lib.hid nT
            clear nT
            refine restu_got (i := 0) (v := ?v66) rfl (by kernel_rfl) (by kernel_rfl) (by kernel_rfl) (by rfl) (fun _ _ _ h => h) (by rfl) ?y66 ?r66
            case y66 => (intro w9q hSwq; clear hSwq; go_simp; with_reducible rfl)
            try simp only [Act.put, List.setIfInBounds_toArray, List.set_cons_zero, List.set_cons_succ]
            refine restu_got (i := 1) (v := ?v67) rfl (by kernel_rfl) (by kernel_rfl) (by kernel_rfl) (by rfl) (fun _ _ _ h => h) (by rfl) ?y67 ?r67
            case y67 => (intro w9q hSwq; clear hSwq; go_simp; with_reducible rfl)
            try simp only [Act.put, List.setIfInBounds_toArray, List.set_cons_zero, List.set_cons_succ]
            refine restu_got (i := 2) (v := ?v68) rfl (by kernel_rfl) (by kernel_rfl) (by kernel_rfl) (by rfl) (fun _ _ _ h => h) (by rfl) ?y68 ?r68
            case y68 => (intro w9q hSwq; clear hSwq; go_simp; with_reducible rfl)
            try simp only [Act.put, List.setIfInBounds_toArray, List.set_cons_zero, List.set_cons_succ]
            refine restu_got (i := 3) (v := ?v69) rfl (by kernel_rfl) (by kernel_rfl) (by kernel_rfl) (by rfl) (fun _ _ _ h => h) (by rfl) ?y69 ?r69
            case y69 => (intro w9q hSwq; clear hSwq; go_simp; with_reducible rfl)
            try simp only [Act.put, List.setIfInBounds_toArray, List.set_cons_zero, List.set_cons_succ]
            refine restu_got (i := 4) (v := ?v70) rfl (by kernel_rfl) (by kernel_rfl) (by kernel_rfl) (by rfl) (fun _ _ _ h => h) (by rfl) ?y70 ?r70
            case y70 => (intro w9q hSwq; clear hSwq; go_simp; with_reducible rfl)
            try simp only [Act.put, List.setIfInBounds_toArray, List.set_cons_zero, List.set_cons_succ]
            refine restu_got (i := 5) (v := ?v71) rfl (by kernel_rfl) (by kernel_rfl) (by kernel_rfl) (by rfl) (fun _ _ _ h => h) (by rfl) ?y71 ?r71
            case y71 => (intro w9q hSwq; clear hSwq; go_simp; with_reducible rfl)
            try simp only [Act.put, List.setIfInBounds_toArray, List.set_cons_zero, List.set_cons_succ]
            refine restu_got (i := 6) (v := ?v72) rfl (by kernel_rfl) (by kernel_rfl) (by kernel_rfl) (by rfl) (fun _ _ _ h => h) (by rfl) ?y72 ?r72
            case y72 => (intro w9q hSwq; clear hSwq; go_simp; with_reducible rfl)
            try simp only [Act.put, List.setIfInBounds_toArray, List.set_cons_zero, List.set_cons_succ]
            refine restu_early (i := 7) [12, 13, 14, 15] (v := ?v73) rfl (by kernel_rfl) (by kernel_rfl) (by kernel_rfl) (by rfl) (by kernel_rfl) (by rfl) (by kernel_rfl) (fun _ _ _ h => h) (by rfl) ?y73 ?r73
            case y73 => ((intro w9' hm9'; have hc9' := Mod.cell hm9' CjT.out (by first | exact List.not_mem_nil | assumption | (simp; done) | (simp; omega)); clear hm9'; go_simp; with_reducible rfl))
            try simp only [Act.put, List.setIfInBounds_toArray, List.set_cons_zero, List.set_cons_succ]
            refine restu_got (i := 8) (v := ?v74) rfl (by kernel_rfl) (by kernel_rfl) (by kernel_rfl) (by rfl) (fun _ _ _ h => h) (by rfl) ?y74 ?r74
            case y74 => (intro w9q hSwq; clear hSwq; go_simp; with_reducible rfl)
            try simp only [Act.put, List.setIfInBounds_toArray, List.set_cons_zero, List.set_cons_succ]
            refine restu_got (i := 9) (v := ?v75) rfl (by kernel_rfl) (by kernel_rfl) (by kernel_rfl) (by rfl) (fun _ _ _ h => h) (by rfl) ?y75 ?r75
            case y75 => (intro w9q hSwq; clear hSwq; go_simp; with_reducible rfl)
            try simp only [Act.put, List.setIfInBounds_toArray, List.set_cons_zero, List.set_cons_succ]
            refine restu_got (i := 10) (v := ?v76) rfl (by kernel_rfl) (by kernel_rfl) (by kernel_rfl) (by rfl) (fun _ _ _ h => h) (by rfl) ?y76 ?r76
            case y76 => (intro w9q hSwq; clear hSwq; go_simp; with_reducible rfl)
            try simp only [Act.put, List.setIfInBounds_toArray, List.set_cons_zero, List.set_cons_succ]
            refine restu_early (i := 11) [12, 13, 14, 15] (v := ?v77) rfl (by kernel_rfl) (by kernel_rfl) (by kernel_rfl) (by rfl) (by kernel_rfl) (by rfl) (by kernel_rfl) (fun _ _ _ h => h) (by rfl) ?y77 ?r77
            case y77 => ((intro w9' hm9'; have hc9' := Mod.cell hm9' CiT.out (by first | exact List.not_mem_nil | assumption | (simp; done) | (simp; omega)); clear hm9'; go_simp; with_reducible rfl))
            try simp only [Act.put, List.setIfInBounds_toArray, List.set_cons_zero, List.set_cons_succ]
            refine restu_got (i := 12) (v := ?v78) rfl (by kernel_rfl) (by kernel_rfl) (by kernel_rfl) (by rfl) (fun _ _ _ h => h) (by rfl) ?y78 ?r78
            case y78 => (intro w9q hSwq; clear hSwq; go_simp; with_reducible rfl)
            try simp only [Act.put, List.setIfInBounds_toArray, List.set_cons_zero, List.set_cons_succ]
            refine restu_one (i := 13) (by kernel_rfl) rfl (by rfl) ?_
            have ciT := (RvT.out.at' HBIT).1
            have fiT := (RvT.out.at' HBIT).2
            go_wp2_with fail
            have RaT := Lib.hid (RvT.out.set iA xjT)
            have naT : Mod [g] vT (vT.setCell ⟨g, iA, none⟩ (.int .u32 (xjT : Int))) := Mod.setCell _ _ _ (by simp)
            have NaT := Lib.hid (NvT.out.nil.trans' naT)
            have RbT := Lib.hid (RvT.out.swp HSIT.out HSJT.out)
            refine backm_to (K1 := [g]) (by kernel_rfl) naT (fun _ h _ => h) ?_
            clear naT ciT fiT CiT CjT NvT RvT
            refine rest_got (i := 14) (v := ?v79) rfl (by kernel_rfl) (by kernel_rfl) (by kernel_rfl) (fun _ _ _ h => h) (by rfl) ?y79 ?r79
            case y79 => (intro w9q hSwq; clear hSwq; go_simp; with_reducible rfl)
            try simp only [Act.put, List.setIfInBounds_toArray, List.set_cons_zero, List.set_cons_succ]
            refine rest_one (i := 15) (by kernel_rfl) rfl (by rfl) ?_
            have cjT := (RaT.out.at' (i := jB) (by rw [Array.size_setIfInBounds]; exact HBJT)).1
            have fjT := (RaT.out.at' (i := jB) (by rw [Array.size_setIfInBounds]; exact HBJT)).2
            go_wp2_with fail
            have nbT : Mod [g] (vT.setCell ⟨g, iA, none⟩ (.int .u32 (xjT : Int))) ((vT.setCell ⟨g, iA, none⟩ (.int .u32 (xjT : Int))).setCell ⟨g, jB, none⟩ (.int .u32 (xiT : Int))) := Mod.setCell _ _ _ (by simp)
            have MT := Lib.hid (NaT.out.trans' nbT)
            have RT := Lib.hid RbT.out
            refine back_to (K1 := []) nbT (by simp) ?_
            clear nbT cjT fjT NaT RaT RbT HSIT HSJT
            refine rest_done (by kernel_rfl) ?_ _
            obtain ⟨wT, hwT⟩ : ∃ x, (vT.setCell ⟨g, iA, none⟩ (.int .u32 (xjT : Int))).setCell ⟨g, jB, none⟩ (.int .u32 (xiT : Int)) = x := ⟨_, rfl⟩
            rw [hwT] at RT MT ⊢
            clear hwT
            have HLP : Hid (∀ r, Sort.partLoop ltN a (iA + 1) (jB - 1) (Sort.swp d1 iA jB) = r → P = (r.1, false, Sort.swp r.2 r.1 a)) := Lib.hid (HLOOP.out hji)
            obtain ⟨R0, hR0⟩ : ∃ r, Sort.partLoop ltN a (iA + 1) (jB - 1) (Sort.swp d1 iA jB) = r := ⟨_, rfl⟩
            have HPR := Lib.hid (HLP.out R0 hR0)
            have HR0 := Lib.hid hR0
            clear HLP hR0 HLOOP HDONE
            have HMT := Lib.hid (((MS.out.trans0 HMAi.out).trans0 HMBj.out).trans' MT.out)
            have HNT : Hid ((Sort.swp d1 iA jB).size = n) := Lib.hid (by rw [size_swp, HN1.out])
            obtain ⟨jBm, hjBm⟩ : ∃ q, jB - 1 = q := ⟨_, rfl⟩
            have ejBm : (jB : Int) - 1 = (jBm : Int) := by omega
            rw [hjBm] at HR0
            obtain ⟨iA1, hiA1⟩ : ∃ q, iA + 1 = q := ⟨_, rfl⟩
            have eiA1 : (iA : Int) + 1 = (iA1 : Int) := by omega
            rw [hiA1] at HR0
            go_wp2
            go_loopw [10, 11] (fun s10 s11 wr => ∃ (i j : Nat) (d2 : Array Nat), a + 1 ≤ i ∧ i ≤ b1 + 1 ∧ j ≤ b1 ∧ s10 = .int .i64 (i : Int) ∧ s11 = .int .i64 (j : Int) ∧ Row wr g cap d2 ∧ d2.size = n ∧ Sort.partLoop ltN a i j d2 = R0 ∧ Mod [g] w wr) (fun s10 _ _ => b - (RowKit.intOf s10).toNat)
            case atStart => exact ⟨iA1, jBm, _, by omega, by omega, by omega, rfl, rfl, RT.out, HNT.out, HR0.out, HMT.out⟩
            case round =>
              rename World => w3
              obtain ⟨i, j, d2, hai, hib, hjb, rfl, rfl, hR, hn, hPL, hm⟩ := hrel
              have HR2 := Lib.hid hR
              have HN2 := Lib.hid hn
              have HPL := Lib.hid hPL
              have HM3 := Lib.hid hm
              clear hR hn hPL hm HR0
              obtain ⟨q1, hq1⟩ : ∃ p : Nat → Bool, (fun x => ltN x d2[a]!) = p := ⟨_, rfl⟩
              obtain ⟨q2, hq2⟩ : ∃ p : Nat → Bool, (fun x => !ltN x d2[a]!) = p := ⟨_, rfl⟩
              obtain ⟨IC, hIC⟩ : ∃ x, Sort.scanUp q1 d2 j i = x := ⟨_, rfl⟩
              obtain ⟨JD, hJD⟩ : ∃ x, Sort.scanDown q2 d2 IC j = x := ⟨_, rfl⟩
              have HIC := Lib.hid hIC
              have HJD := Lib.hid hJD
              have HQ1 : Hid (∀ x, q1 x = ltN x d2[a]!) := Lib.hid fun x => by rw [← hq1]
              have HQ2 : Hid (∀ x, q2 x = !ltN x d2[a]!) := Lib.hid fun x => by rw [← hq2]
              have HSTOP : Hid (JD < IC → R0 = (JD, d2)) := Lib.hid fun h => by
                rw [← HPL.out]
                exact partLoop_stop (by rw [hq1]; exact hIC) (by rw [hq2]; exact hJD) h
              have HGO : Hid (¬ JD < IC → i ≤ IC → JD ≤ j → 0 < IC → Sort.partLoop ltN a (IC + 1) (JD - 1) (Sort.swp d2 IC JD) = R0) := Lib.hid fun h h1 h2 h3 => by
                rw [← HPL.out]
                exact (partLoop_go (by rw [hq1]; exact hIC) (by rw [hq2]; exact hJD) h h1 h2 h3).symm
              clear hq1 hq2 hIC hJD HPL
              go_wp2
              go_loopw [10] (fun s10 wr => ∃ ix : Nat, a + 1 ≤ ix ∧ ix ≤ b1 + 1 ∧ i ≤ ix ∧ s10 = .int .i64 (ix : Int) ∧ Sort.scanUp q1 d2 j ix = IC ∧ Mod [] w3 wr) (fun s10 _ => b - (RowKit.intOf s10).toNat)
              case atStart => exact ⟨_, by omega, by omega, Nat.le_refl _, by first | rfl | go_num, HIC.out, Mod.refl _ _⟩
              case round =>
                rename World => wrC
                obtain ⟨iC, haiC, hibC, hstC, rfl, hIC, hmC⟩ := hrel
                have HIC2 := Lib.hid hIC
                have HMC := Lib.hid hmC
                have HRC := Lib.hid (HR2.out.mod0 hmC)
                clear hIC hmC
                obtain ⟨blCc, hblCc⟩ : ∃ q, (decide (iC ≤ j) && ltN (d2)[iC]! (d2)[a]!) = q := ⟨_, rfl⟩
                have HCC := Lib.hid hblCc
                clear hblCc
                go_upto_region 13 with (fail)
                go_cut [112] from 99 to 113 (fun s wx => s = .bool blCc ∧ Mod [] wrC wx)
                case first =>
                  by_cases hgC : iC ≤ j
                  · have DGC : decide (iC ≤ j) = true := decide_eq_true (by omega)
                    have BiC : (iC : Int) < (n : Int) := by omega
                    obtain ⟨xC, hxC⟩ : ∃ q, (d2)[iC]! = q := ⟨_, rfl⟩
                    obtain ⟨yC, hyC⟩ : ∃ q, (d2)[a]! = q := ⟨_, rfl⟩
                    have CXC := Lib.hid (HRC.out.cell (i := iC) (by rw [HN2.out]; omega) hxC)
                    have CYC := Lib.hid (HRC.out.cell (i := a) (by rw [HN2.out]; omega) hyC)
                    obtain ⟨blC, hblC⟩ : ∃ q, ltN xC yC = q := ⟨_, rfl⟩
                    have HLC := Lib.hid (less_any xC yC blC hblC)
                    have HBC : Hid (ltN (d2)[iC]! (d2)[a]! = blC) := Lib.hid (by rw [hxC, hyC]; exact hblC)
                    clear hxC hyC hblC
                    refine rest_start [] 14 #[false, false, false, false, false, false, false, false, false, false, false, false, false, false] rfl (by kernel_rfl) (by kernel_rfl) ?_
                    intro uC mC
                    have CXC6 := Lib.hid (mC.cell CXC.out List.not_mem_nil)
                    have CYC6 := Lib.hid (mC.cell CYC.out List.not_mem_nil)
                    have NC := Lib.hid mC
                    have HLC6 := Lib.hid (HLC.out uC)
                    clear mC
                    refine rest_got (i := 0) (v := ?v80) rfl (by kernel_rfl) (by kernel_rfl) (by kernel_rfl) (fun _ _ _ h => h) (by rfl) ?y80 ?r80
                    case y80 => (intro w9q hSwq; clear hSwq; go_simp; with_reducible rfl)
                    try simp only [Act.put, List.setIfInBounds_toArray, List.set_cons_zero, List.set_cons_succ]
                    refine rest_got (i := 1) (v := ?v81) rfl (by kernel_rfl) (by kernel_rfl) (by kernel_rfl) (fun _ _ _ h => h) (by rfl) ?y81 ?r81
                    case y81 => (intro w9q hSwq; clear hSwq; go_simp; with_reducible rfl)
                    try simp only [Act.put, List.setIfInBounds_toArray, List.set_cons_zero, List.set_cons_succ]
                    refine rest_got (i := 2) (v := ?v82) rfl (by kernel_rfl) (by kernel_rfl) (by kernel_rfl) (fun _ _ _ h => h) (by rfl) ?y82 ?r82
                    case y82 => (intro w9q hSwq; clear hSwq; go_simp; with_reducible rfl)
                    try simp only [Act.put, List.setIfInBounds_toArray, List.set_cons_zero, List.set_cons_succ]
                    refine rest_got (i := 3) (v := ?v83) rfl (by kernel_rfl) (by kernel_rfl) (by kernel_rfl) (fun _ _ _ h => h) (by rfl) ?y83 ?r83
                    case y83 => (intro w9q hSwq; clear hSwq; go_simp; with_reducible rfl)
                    try simp only [Act.put, List.setIfInBounds_toArray, List.set_cons_zero, List.set_cons_succ]
                    refine rest_got (i := 4) (v := ?v84) rfl (by kernel_rfl) (by kernel_rfl) (by kernel_rfl) (fun _ _ _ h => h) (by rfl) ?y84 ?r84
                    case y84 => (intro w9q hSwq; clear hSwq; go_simp; with_reducible rfl)
                    try simp only [Act.put, List.setIfInBounds_toArray, List.set_cons_zero, List.set_cons_succ]
                    refine rest_got (i := 5) (v := ?v85) rfl (by kernel_rfl) (by kernel_rfl) (by kernel_rfl) (fun _ _ _ h => h) (by rfl) ?y85 ?r85
                    case y85 => (intro w9q hSwq; clear hSwq; go_simp; with_reducible rfl)
                    try simp only [Act.put, List.setIfInBounds_toArray, List.set_cons_zero, List.set_cons_succ]
                    refine rest_got (i := 6) (v := ?v86) rfl (by kernel_rfl) (by kernel_rfl) (by kernel_rfl) (fun _ _ _ h => h) (by rfl) ?y86 ?r86
                    case y86 => (intro w9q hSwq; clear hSwq; go_simp; with_reducible rfl)
                    try simp only [Act.put, List.setIfInBounds_toArray, List.set_cons_zero, List.set_cons_succ]
                    refine rest_got (i := 7) (v := ?v87) rfl (by kernel_rfl) (by kernel_rfl) (by kernel_rfl) (fun _ _ _ h => h) (by rfl) ?y87 ?r87
                    case y87 => ((intro w9' hm9'; have hc9' := Mod.cell hm9' CXC6.out (by first | exact List.not_mem_nil | assumption | (simp; done) | (simp; omega)); clear hm9'; go_simp; with_reducible rfl))
                    try simp only [Act.put, List.setIfInBounds_toArray, List.set_cons_zero, List.set_cons_succ]
                    refine rest_got (i := 8) (v := ?v88) rfl (by kernel_rfl) (by kernel_rfl) (by kernel_rfl) (fun _ _ _ h => h) (by rfl) ?y88 ?r88
                    case y88 => (intro w9q hSwq; clear hSwq; go_simp; with_reducible rfl)
                    try simp only [Act.put, List.setIfInBounds_toArray, List.set_cons_zero, List.set_cons_succ]
                    refine rest_got (i := 9) (v := ?v89) rfl (by kernel_rfl) (by kernel_rfl) (by kernel_rfl) (fun _ _ _ h => h) (by rfl) ?y89 ?r89
                    case y89 => (intro w9q hSwq; clear hSwq; go_simp; with_reducible rfl)
                    try simp only [Act.put, List.setIfInBounds_toArray, List.set_cons_zero, List.set_cons_succ]
                    refine rest_got (i := 10) (v := ?v90) rfl (by kernel_rfl) (by kernel_rfl) (by kernel_rfl) (fun _ _ _ h => h) (by rfl) ?y90 ?r90
                    case y90 => (intro w9q hSwq; clear hSwq; go_simp; with_reducible rfl)
                    try simp only [Act.put, List.setIfInBounds_toArray, List.set_cons_zero, List.set_cons_succ]
                    refine rest_got (i := 11) (v := ?v91) rfl (by kernel_rfl) (by kernel_rfl) (by kernel_rfl) (fun _ _ _ h => h) (by rfl) ?y91 ?r91
                    case y91 => ((intro w9' hm9'; have hc9' := Mod.cell hm9' CYC6.out (by first | exact List.not_mem_nil | assumption | (simp; done) | (simp; omega)); clear hm9'; go_simp; with_reducible rfl))
                    try simp only [Act.put, List.setIfInBounds_toArray, List.set_cons_zero, List.set_cons_succ]
                    refine rest_one (i := 12) (by kernel_rfl) rfl (by rfl) ?_
                    go_wp2_with fail
                    refine HLC6.out.mono ?_
                    rintro e wC ⟨rfl, rfl⟩
                    go_wp2_with fail
                    refine back_to (K1 := []) (Mod.refl _ _) (by simp) ?_
                    clear HLC6 CXC6 CYC6
                    refine rest_got (i := 13) (v := ?v92) rfl (by kernel_rfl) (by kernel_rfl) (by kernel_rfl) (fun _ _ _ h => h) (by rfl) ?y92 ?r92
                    case y92 => (intro w9q hSwq; clear hSwq; go_simp; with_reducible rfl)
                    try simp only [Act.put, List.setIfInBounds_toArray, List.set_cons_zero, List.set_cons_succ]
                    refine rest_done (by kernel_rfl) ?_ _
                    have RC := Lib.hid (HRC.out.mod0 NC.out)
                    have MC := Lib.hid NC.out
                    clear NC CXC CYC HLC
                    go_wp2
                    go_meet
                    exact ⟨by rw [← HCC.out, HBC.out, decide_eq_true hgC]; cases blC <;> rfl, MC.out⟩
                  · have DGC : decide (iC ≤ j) = false := decide_eq_false (by omega)
                    refine rest_start [] 14 #[false, false, false, false, false, false, false, false, false, false, false, false, false, false] rfl (by kernel_rfl) (by kernel_rfl) ?_
                    intro uC mC
                    have NC := Lib.hid mC
                    clear mC
                    refine rest_got (i := 0) (v := ?v93) rfl (by kernel_rfl) (by kernel_rfl) (by kernel_rfl) (fun _ _ _ h => h) (by rfl) ?y93 ?r93
                    case y93 => (intro w9q hSwq; clear hSwq; go_simp; with_reducible rfl)
                    try simp only [Act.put, List.setIfInBounds_toArray, List.set_cons_zero, List.set_cons_succ]
                    refine rest_got (i := 1) (v := ?v94) rfl (by kernel_rfl) (by kernel_rfl) (by kernel_rfl) (fun _ _ _ h => h) (by rfl) ?y94 ?r94
                    case y94 => (intro w9q hSwq; clear hSwq; go_simp; with_reducible rfl)
                    try simp only [Act.put, List.setIfInBounds_toArray, List.set_cons_zero, List.set_cons_succ]
                    refine rest_got (i := 2) (v := ?v95) rfl (by kernel_rfl) (by kernel_rfl) (by kernel_rfl) (fun _ _ _ h => h) (by rfl) ?y95 ?r95
                    case y95 => (intro w9q hSwq; clear hSwq; go_simp; with_reducible rfl)
                    try simp only [Act.put, List.setIfInBounds_toArray, List.set_cons_zero, List.set_cons_succ]
                    refine rest_got (i := 3) (v := ?v96) rfl (by kernel_rfl) (by kernel_rfl) (by kernel_rfl) (fun _ _ _ h => h) (by rfl) ?y96 ?r96
                    case y96 => (intro w9q hSwq; clear hSwq; go_simp; with_reducible rfl)
                    try simp only [Act.put, List.setIfInBounds_toArray, List.set_cons_zero, List.set_cons_succ]
                    refine rest_skip (i := 4) rfl (by kernel_rfl) (by kernel_rfl) (by kernel_rfl) (fun _ _ _ h => h) (by rfl) ?_
                    try simp only [Act.put, List.setIfInBounds_toArray, List.set_cons_zero, List.set_cons_succ]
                    refine rest_skip (i := 5) rfl (by kernel_rfl) (by kernel_rfl) (by kernel_rfl) (fun _ _ _ h => h) (by rfl) ?_
                    try simp only [Act.put, List.setIfInBounds_toArray, List.set_cons_zero, List.set_cons_succ]
                    refine rest_skip (i := 6) rfl (by kernel_rfl) (by kernel_rfl) (by kernel_rfl) (fun _ _ _ h => h) (by rfl) ?_
                    try simp only [Act.put, List.setIfInBounds_toArray, List.set_cons_zero, List.set_cons_succ]
                    refine rest_skip (i := 7) rfl (by kernel_rfl) (by kernel_rfl) (by kernel_rfl) (fun _ _ _ h => h) (by rfl) ?_
                    try simp only [Act.put, List.setIfInBounds_toArray, List.set_cons_zero, List.set_cons_succ]
                    refine rest_skip (i := 8) rfl (by kernel_rfl) (by kernel_rfl) (by kernel_rfl) (fun _ _ _ h => h) (by rfl) ?_
                    try simp only [Act.put, List.setIfInBounds_toArray, List.set_cons_zero, List.set_cons_succ]
                    refine rest_skip (i := 9) rfl (by kernel_rfl) (by kernel_rfl) (by kernel_rfl) (fun _ _ _ h => h) (by rfl) ?_
                    try simp only [Act.put, List.setIfInBounds_toArray, List.set_cons_zero, List.set_cons_succ]
                    refine rest_skip (i := 10) rfl (by kernel_rfl) (by kernel_rfl) (by kernel_rfl) (fun _ _ _ h => h) (by rfl) ?_
                    try simp only [Act.put, List.setIfInBounds_toArray, List.set_cons_zero, List.set_cons_succ]
                    refine rest_skip (i := 11) rfl (by kernel_rfl) (by kernel_rfl) (by kernel_rfl) (fun _ _ _ h => h) (by rfl) ?_
                    try simp only [Act.put, List.setIfInBounds_toArray, List.set_cons_zero, List.set_cons_succ]
                    refine rest_skip (i := 12) rfl (by kernel_rfl) (by kernel_rfl) (by kernel_rfl) (fun _ _ _ h => h) (by rfl) ?_
                    try simp only [Act.put, List.setIfInBounds_toArray, List.set_cons_zero, List.set_cons_succ]
                    refine rest_got (i := 13) (v := ?v97) rfl (by kernel_rfl) (by kernel_rfl) (by kernel_rfl) (fun _ _ _ h => h) (by rfl) ?y97 ?r97
                    case y97 => (intro w9q hSwq; clear hSwq; go_simp; with_reducible rfl)
                    try simp only [Act.put, List.setIfInBounds_toArray, List.set_cons_zero, List.set_cons_succ]
                    refine rest_done (by kernel_rfl) ?_ _
                    go_wp2
                    go_meet
                    exact ⟨by rw [← HCC.out, decide_eq_false hgC]; rfl, NC.out⟩
                rename World => wCc
                obtain ⟨rfl, hmCc⟩ := hcut
                have MCC := Lib.hid hmCc
                have RCC := Lib.hid (HRC.out.mod0 hmCc)
                clear hmCc
                cases blCc with
                | true =>
                  have HIC3 := Lib.hid ((scanUp_go (p := q1) (by rw [HQ1.out]; exact HCC.out)).symm.trans HIC2.out)
                  have hijC : iC ≤ j := by have := HCC.out; rw [Bool.and_eq_true, decide_eq_true_eq] at this; exact this.1
                  go_wp2
                  go_roundw
                  case rel => exact ⟨iC + 1, by omega, by omega, by omega, by go_num, HIC3.out, HMC.out.trans' MCC.out⟩
                  case measure => first | (simp [RowKit.intOf]; done) | (simp [RowKit.intOf]; omega)
                | false =>
                  have hiiC : iC = IC := (scanUp_stop (p := q1) (by rw [HQ1.out]; exact HCC.out)).symm.trans HIC2.out
                  subst hiiC
                  clear HIC2 HCC
                  have HMCi := Lib.hid (HMC.out.trans' MCC.out)
                  clear HMC MCC HRC
                  go_wp2
                  go_loopw [11] (fun s11 wr => ∃ jx : Nat, jx ≤ b1 ∧ jx ≤ j ∧ s11 = .int .i64 (jx : Int) ∧ Sort.scanDown q2 d2 iC jx = JD ∧ Mod [] wCc wr) (fun s11 _ => (RowKit.intOf s11).toNat)
                  case atStart => exact ⟨_, by omega, Nat.le_refl _, rfl, HJD.out, Mod.refl _ _⟩
                  case round =>
                    rename World => wrD
                    obtain ⟨jD, hjbD, hstD, rfl, hJD, hmD⟩ := hrel
                    have HJD2 := Lib.hid hJD
                    have HMD := Lib.hid hmD
                    have HRD := Lib.hid (RCC.out.mod0 hmD)
                    clear hJD hmD
                    obtain ⟨blDc, hblDc⟩ : ∃ q, (decide (iC ≤ jD) && !ltN (d2)[jD]! (d2)[a]!) = q := ⟨_, rfl⟩
                    have HCD := Lib.hid hblDc
                    clear hblDc
                    go_upto_region 15 with (fail)
                    go_cut [129] from 115 to 130 (fun s wx => s = .bool blDc ∧ Mod [] wrD wx)
                    case first =>
                      by_cases hgD : iC ≤ jD
                      · have DGD : decide (iC ≤ jD) = true := decide_eq_true (by omega)
                        have BjD : (jD : Int) < (n : Int) := by omega
                        obtain ⟨xD, hxD⟩ : ∃ q, (d2)[jD]! = q := ⟨_, rfl⟩
                        obtain ⟨yD, hyD⟩ : ∃ q, (d2)[a]! = q := ⟨_, rfl⟩
                        have CXD := Lib.hid (HRD.out.cell (i := jD) (by rw [HN2.out]; omega) hxD)
                        have CYD := Lib.hid (HRD.out.cell (i := a) (by rw [HN2.out]; omega) hyD)
                        obtain ⟨blD, hblD⟩ : ∃ q, ltN xD yD = q := ⟨_, rfl⟩
                        have HLD := Lib.hid (less_any xD yD blD hblD)
                        have HBD : Hid (ltN (d2)[jD]! (d2)[a]! = blD) := Lib.hid (by rw [hxD, hyD]; exact hblD)
                        clear hxD hyD hblD
                        refine rest_start [] 15 #[false, false, false, false, false, false, false, false, false, false, false, false, false, false, false] rfl (by kernel_rfl) (by kernel_rfl) ?_
                        intro uD mD
                        have CXD6 := Lib.hid (mD.cell CXD.out List.not_mem_nil)
                        have CYD6 := Lib.hid (mD.cell CYD.out List.not_mem_nil)
                        have ND := Lib.hid mD
                        have HLD6 := Lib.hid (HLD.out uD)
                        clear mD
                        refine rest_got (i := 0) (v := ?v98) rfl (by kernel_rfl) (by kernel_rfl) (by kernel_rfl) (fun _ _ _ h => h) (by rfl) ?y98 ?r98
                        case y98 => (intro w9q hSwq; clear hSwq; go_simp; with_reducible rfl)
                        try simp only [Act.put, List.setIfInBounds_toArray, List.set_cons_zero, List.set_cons_succ]
                        refine rest_got (i := 1) (v := ?v99) rfl (by kernel_rfl) (by kernel_rfl) (by kernel_rfl) (fun _ _ _ h => h) (by rfl) ?y99 ?r99
                        case y99 => (intro w9q hSwq; clear hSwq; go_simp; with_reducible rfl)
                        try simp only [Act.put, List.setIfInBounds_toArray, List.set_cons_zero, List.set_cons_succ]
                        refine rest_got (i := 2) (v := ?v100) rfl (by kernel_rfl) (by kernel_rfl) (by kernel_rfl) (fun _ _ _ h => h) (by rfl) ?y100 ?r100
                        case y100 => (intro w9q hSwq; clear hSwq; go_simp; with_reducible rfl)
                        try simp only [Act.put, List.setIfInBounds_toArray, List.set_cons_zero, List.set_cons_succ]
                        refine rest_got (i := 3) (v := ?v101) rfl (by kernel_rfl) (by kernel_rfl) (by kernel_rfl) (fun _ _ _ h => h) (by rfl) ?y101 ?r101
                        case y101 => (intro w9q hSwq; clear hSwq; go_simp; with_reducible rfl)
                        try simp only [Act.put, List.setIfInBounds_toArray, List.set_cons_zero, List.set_cons_succ]
                        refine rest_got (i := 4) (v := ?v102) rfl (by kernel_rfl) (by kernel_rfl) (by kernel_rfl) (fun _ _ _ h => h) (by rfl) ?y102 ?r102
                        case y102 => (intro w9q hSwq; clear hSwq; go_simp; with_reducible rfl)
                        try simp only [Act.put, List.setIfInBounds_toArray, List.set_cons_zero, List.set_cons_succ]
                        refine rest_got (i := 5) (v := ?v103) rfl (by kernel_rfl) (by kernel_rfl) (by kernel_rfl) (fun _ _ _ h => h) (by rfl) ?y103 ?r103
                        case y103 => (intro w9q hSwq; clear hSwq; go_simp; with_reducible rfl)
                        try simp only [Act.put, List.setIfInBounds_toArray, List.set_cons_zero, List.set_cons_succ]
                        refine rest_got (i := 6) (v := ?v104) rfl (by kernel_rfl) (by kernel_rfl) (by kernel_rfl) (fun _ _ _ h => h) (by rfl) ?y104 ?r104
                        case y104 => (intro w9q hSwq; clear hSwq; go_simp; with_reducible rfl)
                        try simp only [Act.put, List.setIfInBounds_toArray, List.set_cons_zero, List.set_cons_succ]
                        refine rest_got (i := 7) (v := ?v105) rfl (by kernel_rfl) (by kernel_rfl) (by kernel_rfl) (fun _ _ _ h => h) (by rfl) ?y105 ?r105
                        case y105 => ((intro w9' hm9'; have hc9' := Mod.cell hm9' CXD6.out (by first | exact List.not_mem_nil | assumption | (simp; done) | (simp; omega)); clear hm9'; go_simp; with_reducible rfl))
                        try simp only [Act.put, List.setIfInBounds_toArray, List.set_cons_zero, List.set_cons_succ]
                        refine rest_got (i := 8) (v := ?v106) rfl (by kernel_rfl) (by kernel_rfl) (by kernel_rfl) (fun _ _ _ h => h) (by rfl) ?y106 ?r106
                        case y106 => (intro w9q hSwq; clear hSwq; go_simp; with_reducible rfl)
                        try simp only [Act.put, List.setIfInBounds_toArray, List.set_cons_zero, List.set_cons_succ]
                        refine rest_got (i := 9) (v := ?v107) rfl (by kernel_rfl) (by kernel_rfl) (by kernel_rfl) (fun _ _ _ h => h) (by rfl) ?y107 ?r107
                        case y107 => (intro w9q hSwq; clear hSwq; go_simp; with_reducible rfl)
                        try simp only [Act.put, List.setIfInBounds_toArray, List.set_cons_zero, List.set_cons_succ]
                        refine rest_got (i := 10) (v := ?v108) rfl (by kernel_rfl) (by kernel_rfl) (by kernel_rfl) (fun _ _ _ h => h) (by rfl) ?y108 ?r108
                        case y108 => (intro w9q hSwq; clear hSwq; go_simp; with_reducible rfl)
                        try simp only [Act.put, List.setIfInBounds_toArray, List.set_cons_zero, List.set_cons_succ]
                        refine rest_got (i := 11) (v := ?v109) rfl (by kernel_rfl) (by kernel_rfl) (by kernel_rfl) (fun _ _ _ h => h) (by rfl) ?y109 ?r109
                        case y109 => ((intro w9' hm9'; have hc9' := Mod.cell hm9' CYD6.out (by first | exact List.not_mem_nil | assumption | (simp; done) | (simp; omega)); clear hm9'; go_simp; with_reducible rfl))
                        try simp only [Act.put, List.setIfInBounds_toArray, List.set_cons_zero, List.set_cons_succ]
                        refine rest_one (i := 12) (by kernel_rfl) rfl (by rfl) ?_
                        go_wp2_with fail
                        refine HLD6.out.mono ?_
                        rintro e wD ⟨rfl, rfl⟩
                        go_wp2_with fail
                        refine back_to (K1 := []) (Mod.refl _ _) (by simp) ?_
                        clear HLD6 CXD6 CYD6
                        refine rest_got (i := 13) (v := ?v110) rfl (by kernel_rfl) (by kernel_rfl) (by kernel_rfl) (fun _ _ _ h => h) (by rfl) ?y110 ?r110
                        case y110 => (intro w9q hSwq; clear hSwq; go_simp; with_reducible rfl)
                        try simp only [Act.put, List.setIfInBounds_toArray, List.set_cons_zero, List.set_cons_succ]
                        refine rest_got (i := 14) (v := ?v111) rfl (by kernel_rfl) (by kernel_rfl) (by kernel_rfl) (fun _ _ _ h => h) (by rfl) ?y111 ?r111
                        case y111 => (intro w9q hSwq; clear hSwq; go_simp; with_reducible rfl)
                        try simp only [Act.put, List.setIfInBounds_toArray, List.set_cons_zero, List.set_cons_succ]
                        refine rest_done (by kernel_rfl) ?_ _
                        have RD := Lib.hid (HRD.out.mod0 ND.out)
                        have MD := Lib.hid ND.out
                        clear ND CXD CYD HLD
                        go_wp2
                        go_meet
                        exact ⟨by rw [← HCD.out, HBD.out, decide_eq_true hgD]; cases blD <;> rfl, MD.out⟩
                      · have DGD : decide (iC ≤ jD) = false := decide_eq_false (by omega)
                        refine rest_start [] 15 #[false, false, false, false, false, false, false, false, false, false, false, false, false, false, false] rfl (by kernel_rfl) (by kernel_rfl) ?_
                        intro uD mD
                        have ND := Lib.hid mD
                        clear mD
                        refine rest_got (i := 0) (v := ?v112) rfl (by kernel_rfl) (by kernel_rfl) (by kernel_rfl) (fun _ _ _ h => h) (by rfl) ?y112 ?r112
                        case y112 => (intro w9q hSwq; clear hSwq; go_simp; with_reducible rfl)
                        try simp only [Act.put, List.setIfInBounds_toArray, List.set_cons_zero, List.set_cons_succ]
                        refine rest_got (i := 1) (v := ?v113) rfl (by kernel_rfl) (by kernel_rfl) (by kernel_rfl) (fun _ _ _ h => h) (by rfl) ?y113 ?r113
                        case y113 => (intro w9q hSwq; clear hSwq; go_simp; with_reducible rfl)
                        try simp only [Act.put, List.setIfInBounds_toArray, List.set_cons_zero, List.set_cons_succ]
                        refine rest_got (i := 2) (v := ?v114) rfl (by kernel_rfl) (by kernel_rfl) (by kernel_rfl) (fun _ _ _ h => h) (by rfl) ?y114 ?r114
                        case y114 => (intro w9q hSwq; clear hSwq; go_simp; with_reducible rfl)
                        try simp only [Act.put, List.setIfInBounds_toArray, List.set_cons_zero, List.set_cons_succ]
                        refine rest_got (i := 3) (v := ?v115) rfl (by kernel_rfl) (by kernel_rfl) (by kernel_rfl) (fun _ _ _ h => h) (by rfl) ?y115 ?r115
                        case y115 => (intro w9q hSwq; clear hSwq; go_simp; with_reducible rfl)
                        try simp only [Act.put, List.setIfInBounds_toArray, List.set_cons_zero, List.set_cons_succ]
                        refine rest_skip (i := 4) rfl (by kernel_rfl) (by kernel_rfl) (by kernel_rfl) (fun _ _ _ h => h) (by rfl) ?_
                        try simp only [Act.put, List.setIfInBounds_toArray, List.set_cons_zero, List.set_cons_succ]
                        refine rest_skip (i := 5) rfl (by kernel_rfl) (by kernel_rfl) (by kernel_rfl) (fun _ _ _ h => h) (by rfl) ?_
                        try simp only [Act.put, List.setIfInBounds_toArray, List.set_cons_zero, List.set_cons_succ]
                        refine rest_skip (i := 6) rfl (by kernel_rfl) (by kernel_rfl) (by kernel_rfl) (fun _ _ _ h => h) (by rfl) ?_
                        try simp only [Act.put, List.setIfInBounds_toArray, List.set_cons_zero, List.set_cons_succ]
                        refine rest_skip (i := 7) rfl (by kernel_rfl) (by kernel_rfl) (by kernel_rfl) (fun _ _ _ h => h) (by rfl) ?_
                        try simp only [Act.put, List.setIfInBounds_toArray, List.set_cons_zero, List.set_cons_succ]
                        refine rest_skip (i := 8) rfl (by kernel_rfl) (by kernel_rfl) (by kernel_rfl) (fun _ _ _ h => h) (by rfl) ?_
                        try simp only [Act.put, List.setIfInBounds_toArray, List.set_cons_zero, List.set_cons_succ]
                        refine rest_skip (i := 9) rfl (by kernel_rfl) (by kernel_rfl) (by kernel_rfl) (fun _ _ _ h => h) (by rfl) ?_
                        try simp only [Act.put, List.setIfInBounds_toArray, List.set_cons_zero, List.set_cons_succ]
                        refine rest_skip (i := 10) rfl (by kernel_rfl) (by kernel_rfl) (by kernel_rfl) (fun _ _ _ h => h) (by rfl) ?_
                        try simp only [Act.put, List.setIfInBounds_toArray, List.set_cons_zero, List.set_cons_succ]
                        refine rest_skip (i := 11) rfl (by kernel_rfl) (by kernel_rfl) (by kernel_rfl) (fun _ _ _ h => h) (by rfl) ?_
                        try simp only [Act.put, List.setIfInBounds_toArray, List.set_cons_zero, List.set_cons_succ]
                        refine rest_skip (i := 12) rfl (by kernel_rfl) (by kernel_rfl) (by kernel_rfl) (fun _ _ _ h => h) (by rfl) ?_
                        try simp only [Act.put, List.setIfInBounds_toArray, List.set_cons_zero, List.set_cons_succ]
                        refine rest_skip (i := 13) rfl (by kernel_rfl) (by kernel_rfl) (by kernel_rfl) (fun _ _ _ h => h) (by rfl) ?_
                        try simp only [Act.put, List.setIfInBounds_toArray, List.set_cons_zero, List.set_cons_succ]
                        refine rest_got (i := 14) (v := ?v116) rfl (by kernel_rfl) (by kernel_rfl) (by kernel_rfl) (fun _ _ _ h => h) (by rfl) ?y116 ?r116
                        case y116 => (intro w9q hSwq; clear hSwq; go_simp; with_reducible rfl)
                        try simp only [Act.put, List.setIfInBounds_toArray, List.set_cons_zero, List.set_cons_succ]
                        refine rest_done (by kernel_rfl) ?_ _
                        go_wp2
                        go_meet
                        exact ⟨by rw [← HCD.out, decide_eq_false hgD]; rfl, ND.out⟩
                    rename World => wDc
                    obtain ⟨rfl, hmDc⟩ := hcut
                    have MCD := Lib.hid hmDc
                    have RCD := Lib.hid (HRD.out.mod0 hmDc)
                    clear hmDc
                    cases blDc with
                    | true =>
                      have HJD3 := Lib.hid ((scanDown_go (p := q2) (by omega) (by rw [HQ2.out]; exact HCD.out)).symm.trans HJD2.out)
                      have hijD : iC ≤ jD := by have := HCD.out; rw [Bool.and_eq_true, decide_eq_true_eq] at this; exact this.1
                      obtain ⟨jmD, hjmD⟩ : ∃ q, jD - 1 = q := ⟨_, rfl⟩
                      have ejmD : (jD : Int) - 1 = (jmD : Int) := by omega
                      rw [hjmD] at HJD3
                      go_wp2
                      go_roundw
                      case rel => exact ⟨jmD, by omega, by omega, by first | rfl | (congr 1; omega), HJD3.out, HMD.out.trans' MCD.out⟩
                      case measure => first | (simp [RowKit.intOf]; done) | (simp [RowKit.intOf]; omega)
                    | false =>
                      have hjjD : jD = JD := (scanDown_stop (p := q2) (by rw [HQ2.out]; exact HCD.out)).symm.trans HJD2.out
                      subst hjjD
                      clear HJD2 HCD
                      have HMDj := Lib.hid (HMD.out.trans' MCD.out)
                      clear HMD MCD HRD
                      by_cases hjc : jD < iC
                      · have hRR := HSTOP.out hjc
                        have HPR2 : Hid (P = (jD, false, Sort.swp d2 jD a)) := Lib.hid (by rw [HPR.out, hRR])
                        have DGG : decide (jD < iC) = true := decide_eq_true hjc
                        have BjD : (jD : Int) < (n : Int) := by omega
                        clear hRR HPR HGO HSTOP
                        obtain ⟨xiV, hxiV⟩ : ∃ x, (d2)[jD]! = x := ⟨_, rfl⟩
                        obtain ⟨xjV, hxjV⟩ : ∃ x, (d2)[a]! = x := ⟨_, rfl⟩
                        have HSIV : Hid ((d2)[jD]! = xiV) := Lib.hid hxiV
                        have HSJV : Hid ((d2)[a]! = xjV) := Lib.hid hxjV
                        have HBIV : jD < (d2).size := by rw [HN2.out]; omega
                        have HBJV : a < (d2).size := by rw [HN2.out]; omega
                        clear hxiV hxjV
                        go_upto_region 21 with (fail)
                        refine restu_start 13 [] [g] 16 #[false, false, false, false, false, false, false, false, false, false, false, false, false, false, false, false] rfl (by kernel_rfl) (by kernel_rfl) ?_
                        intro vV nV
                        have RvV := Lib.hid (RCD.out.mod0 nV)
                        have CiV := Lib.hid (RvV.out.cell HBIV HSIV.out)
                        have CjV := Lib.hid (RvV.out.cell HBJV HSJV.out)
                        have NvV := Lib.hid nV
                        clear nV
                        refine restu_got (i := 0) (v := ?v117) rfl (by kernel_rfl) (by kernel_rfl) (by kernel_rfl) (by rfl) (fun _ _ _ h => h) (by rfl) ?y117 ?r117
                        case y117 => (intro w9q hSwq; clear hSwq; go_simp; with_reducible rfl)
                        try simp only [Act.put, List.setIfInBounds_toArray, List.set_cons_zero, List.set_cons_succ]
                        refine restu_got (i := 1) (v := ?v118) rfl (by kernel_rfl) (by kernel_rfl) (by kernel_rfl) (by rfl) (fun _ _ _ h => h) (by rfl) ?y118 ?r118
                        case y118 => (intro w9q hSwq; clear hSwq; go_simp; with_reducible rfl)
                        try simp only [Act.put, List.setIfInBounds_toArray, List.set_cons_zero, List.set_cons_succ]
                        refine restu_got (i := 2) (v := ?v119) rfl (by kernel_rfl) (by kernel_rfl) (by kernel_rfl) (by rfl) (fun _ _ _ h => h) (by rfl) ?y119 ?r119
                        case y119 => (intro w9q hSwq; clear hSwq; go_simp; with_reducible rfl)
                        try simp only [Act.put, List.setIfInBounds_toArray, List.set_cons_zero, List.set_cons_succ]
                        refine restu_got (i := 3) (v := ?v120) rfl (by kernel_rfl) (by kernel_rfl) (by kernel_rfl) (by rfl) (fun _ _ _ h => h) (by rfl) ?y120 ?r120
                        case y120 => (intro w9q hSwq; clear hSwq; go_simp; with_reducible rfl)
                        try simp only [Act.put, List.setIfInBounds_toArray, List.set_cons_zero, List.set_cons_succ]
                        refine restu_got (i := 4) (v := ?v121) rfl (by kernel_rfl) (by kernel_rfl) (by kernel_rfl) (by rfl) (fun _ _ _ h => h) (by rfl) ?y121 ?r121
                        case y121 => (intro w9q hSwq; clear hSwq; go_simp; with_reducible rfl)
                        try simp only [Act.put, List.setIfInBounds_toArray, List.set_cons_zero, List.set_cons_succ]
                        refine restu_got (i := 5) (v := ?v122) rfl (by kernel_rfl) (by kernel_rfl) (by kernel_rfl) (by rfl) (fun _ _ _ h => h) (by rfl) ?y122 ?r122
                        case y122 => (intro w9q hSwq; clear hSwq; go_simp; with_reducible rfl)
                        try simp only [Act.put, List.setIfInBounds_toArray, List.set_cons_zero, List.set_cons_succ]
                        refine restu_got (i := 6) (v := ?v123) rfl (by kernel_rfl) (by kernel_rfl) (by kernel_rfl) (by rfl) (fun _ _ _ h => h) (by rfl) ?y123 ?r123
                        case y123 => (intro w9q hSwq; clear hSwq; go_simp; with_reducible rfl)
                        try simp only [Act.put, List.setIfInBounds_toArray, List.set_cons_zero, List.set_cons_succ]
                        refine restu_early (i := 7) [12, 13, 14, 15] (v := ?v124) rfl (by kernel_rfl) (by kernel_rfl) (by kernel_rfl) (by rfl) (by kernel_rfl) (by rfl) (by kernel_rfl) (fun _ _ _ h => h) (by rfl) ?y124 ?r124
                        case y124 => ((intro w9' hm9'; have hc9' := Mod.cell hm9' CjV.out (by first | exact List.not_mem_nil | assumption | (simp; done) | (simp; omega)); clear hm9'; go_simp; with_reducible rfl))
                        try simp only [Act.put, List.setIfInBounds_toArray, List.set_cons_zero, List.set_cons_succ]
                        refine restu_got (i := 8) (v := ?v125) rfl (by kernel_rfl) (by kernel_rfl) (by kernel_rfl) (by rfl) (fun _ _ _ h => h) (by rfl) ?y125 ?r125
                        case y125 => (intro w9q hSwq; clear hSwq; go_simp; with_reducible rfl)
                        try simp only [Act.put, List.setIfInBounds_toArray, List.set_cons_zero, List.set_cons_succ]
                        refine restu_got (i := 9) (v := ?v126) rfl (by kernel_rfl) (by kernel_rfl) (by kernel_rfl) (by rfl) (fun _ _ _ h => h) (by rfl) ?y126 ?r126
                        case y126 => (intro w9q hSwq; clear hSwq; go_simp; with_reducible rfl)
                        try simp only [Act.put, List.setIfInBounds_toArray, List.set_cons_zero, List.set_cons_succ]
                        refine restu_got (i := 10) (v := ?v127) rfl (by kernel_rfl) (by kernel_rfl) (by kernel_rfl) (by rfl) (fun _ _ _ h => h) (by rfl) ?y127 ?r127
                        case y127 => (intro w9q hSwq; clear hSwq; go_simp; with_reducible rfl)
                        try simp only [Act.put, List.setIfInBounds_toArray, List.set_cons_zero, List.set_cons_succ]
                        refine restu_early (i := 11) [12, 13, 14, 15] (v := ?v128) rfl (by kernel_rfl) (by kernel_rfl) (by kernel_rfl) (by rfl) (by kernel_rfl) (by rfl) (by kernel_rfl) (fun _ _ _ h => h) (by rfl) ?y128 ?r128
                        case y128 => ((intro w9' hm9'; have hc9' := Mod.cell hm9' CiV.out (by first | exact List.not_mem_nil | assumption | (simp; done) | (simp; omega)); clear hm9'; go_simp; with_reducible rfl))
                        try simp only [Act.put, List.setIfInBounds_toArray, List.set_cons_zero, List.set_cons_succ]
                        refine restu_got (i := 12) (v := ?v129) rfl (by kernel_rfl) (by kernel_rfl) (by kernel_rfl) (by rfl) (fun _ _ _ h => h) (by rfl) ?y129 ?r129
                        case y129 => (intro w9q hSwq; clear hSwq; go_simp; with_reducible rfl)
                        try simp only [Act.put, List.setIfInBounds_toArray, List.set_cons_zero, List.set_cons_succ]
                        refine restu_one (i := 13) (by kernel_rfl) rfl (by rfl) ?_
                        have ciV := (RvV.out.at' HBIV).1
                        have fiV := (RvV.out.at' HBIV).2
                        go_wp2_with fail
                        have RaV := Lib.hid (RvV.out.set jD xjV)
                        have naV : Mod [g] vV (vV.setCell ⟨g, jD, none⟩ (.int .u32 (xjV : Int))) := Mod.setCell _ _ _ (by simp)
                        have NaV := Lib.hid (NvV.out.nil.trans' naV)
                        have RbV := Lib.hid (RvV.out.swp HSIV.out HSJV.out)
                        refine backm_to (K1 := [g]) (by kernel_rfl) naV (fun _ h _ => h) ?_
                        clear naV ciV fiV CiV CjV NvV RvV
                        refine rest_got (i := 14) (v := ?v130) rfl (by kernel_rfl) (by kernel_rfl) (by kernel_rfl) (fun _ _ _ h => h) (by rfl) ?y130 ?r130
                        case y130 => (intro w9q hSwq; clear hSwq; go_simp; with_reducible rfl)
                        try simp only [Act.put, List.setIfInBounds_toArray, List.set_cons_zero, List.set_cons_succ]
                        refine rest_one (i := 15) (by kernel_rfl) rfl (by rfl) ?_
                        have cjV := (RaV.out.at' (i := a) (by rw [Array.size_setIfInBounds]; exact HBJV)).1
                        have fjV := (RaV.out.at' (i := a) (by rw [Array.size_setIfInBounds]; exact HBJV)).2
                        go_wp2_with fail
                        have nbV : Mod [g] (vV.setCell ⟨g, jD, none⟩ (.int .u32 (xjV : Int))) ((vV.setCell ⟨g, jD, none⟩ (.int .u32 (xjV : Int))).setCell ⟨g, a, none⟩ (.int .u32 (xiV : Int))) := Mod.setCell _ _ _ (by simp)
                        have MV := Lib.hid (NaV.out.trans' nbV)
                        have RV := Lib.hid RbV.out
                        refine back_to (K1 := []) nbV (by simp) ?_
                        clear nbV cjV fjV NaV RaV RbV HSIV HSJV
                        refine rest_done (by kernel_rfl) ?_ _
                        go_wp2
                        go_ret2
                        rw [HPR2.out]
                        exact ⟨rfl, RV.out, ((HM3.out.trans0 HMCi.out).trans0 HMDj.out).trans' MV.out⟩
                      · have HG2 := Lib.hid (HGO.out hjc (by omega) (by omega) (by omega))
                        have DGG : decide (jD < iC) = false := decide_eq_false hjc
                        have BjD : (jD : Int) < (n : Int) := by omega
                        have BiC : (iC : Int) < (n : Int) := by omega
                        clear HGO HSTOP
                        obtain ⟨xiV, hxiV⟩ : ∃ x, (d2)[iC]! = x := ⟨_, rfl⟩
                        obtain ⟨xjV, hxjV⟩ : ∃ x, (d2)[jD]! = x := ⟨_, rfl⟩
                        have HSIV : Hid ((d2)[iC]! = xiV) := Lib.hid hxiV
                        have HSJV : Hid ((d2)[jD]! = xjV) := Lib.hid hxjV
                        have HBIV : iC < (d2).size := by rw [HN2.out]; omega
                        have HBJV : jD < (d2).size := by rw [HN2.out]; omega
                        clear hxiV hxjV
                        go_upto_region 18 with (fail)
                        refine restu_start 13 [] [g] 16 #[false, false, false, false, false, false, false, false, false, false, false, false, false, false, false, false] rfl (by kernel_rfl) (by kernel_rfl) ?_
                        intro vV nV
                        have RvV := Lib.hid (RCD.out.mod0 nV)
                        have CiV := Lib.hid (RvV.out.cell HBIV HSIV.out)
                        have CjV := Lib.hid (RvV.out.cell HBJV HSJV.out)
                        have NvV := Lib.hid nV
                        clear nV
                        refine restu_got (i := 0) (v := ?v131) rfl (by kernel_rfl) (by kernel_rfl) (by kernel_rfl) (by rfl) (fun _ _ _ h => h) (by rfl) ?y131 ?r131
                        case y131 => (intro w9q hSwq; clear hSwq; go_simp; with_reducible rfl)
                        try simp only [Act.put, List.setIfInBounds_toArray, List.set_cons_zero, List.set_cons_succ]
                        refine restu_got (i := 1) (v := ?v132) rfl (by kernel_rfl) (by kernel_rfl) (by kernel_rfl) (by rfl) (fun _ _ _ h => h) (by rfl) ?y132 ?r132
                        case y132 => (intro w9q hSwq; clear hSwq; go_simp; with_reducible rfl)
                        try simp only [Act.put, List.setIfInBounds_toArray, List.set_cons_zero, List.set_cons_succ]
                        refine restu_got (i := 2) (v := ?v133) rfl (by kernel_rfl) (by kernel_rfl) (by kernel_rfl) (by rfl) (fun _ _ _ h => h) (by rfl) ?y133 ?r133
                        case y133 => (intro w9q hSwq; clear hSwq; go_simp; with_reducible rfl)
                        try simp only [Act.put, List.setIfInBounds_toArray, List.set_cons_zero, List.set_cons_succ]
                        refine restu_got (i := 3) (v := ?v134) rfl (by kernel_rfl) (by kernel_rfl) (by kernel_rfl) (by rfl) (fun _ _ _ h => h) (by rfl) ?y134 ?r134
                        case y134 => (intro w9q hSwq; clear hSwq; go_simp; with_reducible rfl)
                        try simp only [Act.put, List.setIfInBounds_toArray, List.set_cons_zero, List.set_cons_succ]
                        refine restu_got (i := 4) (v := ?v135) rfl (by kernel_rfl) (by kernel_rfl) (by kernel_rfl) (by rfl) (fun _ _ _ h => h) (by rfl) ?y135 ?r135
                        case y135 => (intro w9q hSwq; clear hSwq; go_simp; with_reducible rfl)
                        try simp only [Act.put, List.setIfInBounds_toArray, List.set_cons_zero, List.set_cons_succ]
                        refine restu_got (i := 5) (v := ?v136) rfl (by kernel_rfl) (by kernel_rfl) (by kernel_rfl) (by rfl) (fun _ _ _ h => h) (by rfl) ?y136 ?r136
                        case y136 => (intro w9q hSwq; clear hSwq; go_simp; with_reducible rfl)
                        try simp only [Act.put, List.setIfInBounds_toArray, List.set_cons_zero, List.set_cons_succ]
                        refine restu_got (i := 6) (v := ?v137) rfl (by kernel_rfl) (by kernel_rfl) (by kernel_rfl) (by rfl) (fun _ _ _ h => h) (by rfl) ?y137 ?r137
                        case y137 => (intro w9q hSwq; clear hSwq; go_simp; with_reducible rfl)
                        try simp only [Act.put, List.setIfInBounds_toArray, List.set_cons_zero, List.set_cons_succ]
                        refine restu_early (i := 7) [12, 13, 14, 15] (v := ?v138) rfl (by kernel_rfl) (by kernel_rfl) (by kernel_rfl) (by rfl) (by kernel_rfl) (by rfl) (by kernel_rfl) (fun _ _ _ h => h) (by rfl) ?y138 ?r138
                        case y138 => ((intro w9' hm9'; have hc9' := Mod.cell hm9' CjV.out (by first | exact List.not_mem_nil | assumption | (simp; done) | (simp; omega)); clear hm9'; go_simp; with_reducible rfl))
                        try simp only [Act.put, List.setIfInBounds_toArray, List.set_cons_zero, List.set_cons_succ]
                        refine restu_got (i := 8) (v := ?v139) rfl (by kernel_rfl) (by kernel_rfl) (by kernel_rfl) (by rfl) (fun _ _ _ h => h) (by rfl) ?y139 ?r139
                        case y139 => (intro w9q hSwq; clear hSwq; go_simp; with_reducible rfl)
                        try simp only [Act.put, List.setIfInBounds_toArray, List.set_cons_zero, List.set_cons_succ]
                        refine restu_got (i := 9) (v := ?v140) rfl (by kernel_rfl) (by kernel_rfl) (by kernel_rfl) (by rfl) (fun _ _ _ h => h) (by rfl) ?y140 ?r140
                        case y140 => (intro w9q hSwq; clear hSwq; go_simp; with_reducible rfl)
                        try simp only [Act.put, List.setIfInBounds_toArray, List.set_cons_zero, List.set_cons_succ]
                        refine restu_got (i := 10) (v := ?v141) rfl (by kernel_rfl) (by kernel_rfl) (by kernel_rfl) (by rfl) (fun _ _ _ h => h) (by rfl) ?y141 ?r141
                        case y141 => (intro w9q hSwq; clear hSwq; go_simp; with_reducible rfl)
                        try simp only [Act.put, List.setIfInBounds_toArray, List.set_cons_zero, List.set_cons_succ]
                        refine restu_early (i := 11) [12, 13, 14, 15] (v := ?v142) rfl (by kernel_rfl) (by kernel_rfl) (by kernel_rfl) (by rfl) (by kernel_rfl) (by rfl) (by kernel_rfl) (fun _ _ _ h => h) (by rfl) ?y142 ?r142
                        case y142 => ((intro w9' hm9'; have hc9' := Mod.cell hm9' CiV.out (by first | exact List.not_mem_nil | assumption | (simp; done) | (simp; omega)); clear hm9'; go_simp; with_reducible rfl))
                        try simp only [Act.put, List.setIfInBounds_toArray, List.set_cons_zero, List.set_cons_succ]
                        refine restu_got (i := 12) (v := ?v143) rfl (by kernel_rfl) (by kernel_rfl) (by kernel_rfl) (by rfl) (fun _ _ _ h => h) (by rfl) ?y143 ?r143
                        case y143 => (intro w9q hSwq; clear hSwq; go_simp; with_reducible rfl)
                        try simp only [Act.put, List.setIfInBounds_toArray, List.set_cons_zero, List.set_cons_succ]
                        refine restu_one (i := 13) (by kernel_rfl) rfl (by rfl) ?_
                        have ciV := (RvV.out.at' HBIV).1
                        have fiV := (RvV.out.at' HBIV).2
                        go_wp2_with fail
                        have RaV := Lib.hid (RvV.out.set iC xjV)
                        have naV : Mod [g] vV (vV.setCell ⟨g, iC, none⟩ (.int .u32 (xjV : Int))) := Mod.setCell _ _ _ (by simp)
                        have NaV := Lib.hid (NvV.out.nil.trans' naV)
                        have RbV := Lib.hid (RvV.out.swp HSIV.out HSJV.out)
                        refine backm_to (K1 := [g]) (by kernel_rfl) naV (fun _ h _ => h) ?_
                        clear naV ciV fiV CiV CjV NvV RvV
                        refine rest_got (i := 14) (v := ?v144) rfl (by kernel_rfl) (by kernel_rfl) (by kernel_rfl) (fun _ _ _ h => h) (by rfl) ?y144 ?r144
                        case y144 => (intro w9q hSwq; clear hSwq; go_simp; with_reducible rfl)
                        try simp only [Act.put, List.setIfInBounds_toArray, List.set_cons_zero, List.set_cons_succ]
                        refine rest_one (i := 15) (by kernel_rfl) rfl (by rfl) ?_
                        have cjV := (RaV.out.at' (i := jD) (by rw [Array.size_setIfInBounds]; exact HBJV)).1
                        have fjV := (RaV.out.at' (i := jD) (by rw [Array.size_setIfInBounds]; exact HBJV)).2
                        go_wp2_with fail
                        have nbV : Mod [g] (vV.setCell ⟨g, iC, none⟩ (.int .u32 (xjV : Int))) ((vV.setCell ⟨g, iC, none⟩ (.int .u32 (xjV : Int))).setCell ⟨g, jD, none⟩ (.int .u32 (xiV : Int))) := Mod.setCell _ _ _ (by simp)
                        have MV := Lib.hid (NaV.out.trans' nbV)
                        have RV := Lib.hid RbV.out
                        refine back_to (K1 := []) nbV (by simp) ?_
                        clear nbV cjV fjV NaV RaV RbV HSIV HSJV
                        refine rest_done (by kernel_rfl) ?_ _
                        obtain ⟨jDm, hjDm⟩ : ∃ q, jD - 1 = q := ⟨_, rfl⟩
                        have ejDm : (jD : Int) - 1 = (jDm : Int) := by omega
                        rw [hjDm] at HG2
                        go_wp2
                        go_roundw
                        case rel => exact ⟨iC + 1, jDm, Sort.swp d2 iC jD, by omega, by omega, by omega, by go_num, by first | rfl | (congr 1; omega), RV.out, by rw [size_swp, HN2.out], HG2.out, ((HM3.out.trans0 HMCi.out).trans0 HMDj.out).trans' MV.out⟩
                        case measure => first | (simp [RowKit.intOf]; done) | (simp [RowKit.intOf]; omega)
end Go.Proofs.Ytgneigdcgfiooaa
