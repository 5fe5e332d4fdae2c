/- Texts put together (6 of 9): Sort7, Sort8, SessShelf. -/
import Derived.Test.YtgneigdcgfiooaaZ2
import Derived.Handy
import Derived.Outline
import Derived.Deep.CutRange
import Derived.Deep.CutBlock
import Derived.Shelf.Small.Bits
import Derived.Shelf.Strconv.Itoa0
import Derived.Test.YtgneigdcgfiooaaProg
import Derived.Test.YtgneigdcgfiooaaZ5
/- partialInsertionSortOrdered at uint32. -/
namespace Go.Proofs.Ytgneigdcgfiooaa
open Go Go.RowKit Go.Lib

theorem sorted_go {d : Array Nat} {b i : Nat} (h : (decide (i < b) && !ltN d[i]! d[i - 1]!) = true) : Sort.scanSorted ltN d b i = Sort.scanSorted ltN d b (i + 1) := by
  rw [Sort.scanSorted, if_pos h]
theorem sorted_stop {d : Array Nat} {b i : Nat} (h : (decide (i < b) && !ltN d[i]! d[i - 1]!) = false) : Sort.scanSorted ltN d b i = i := by
  rw [Sort.scanSorted, if_neg (by rw [h]; exact Bool.false_ne_true)]
theorem shiftDown_go {j : Nat} {d : Array Nat} (h : ltN d[j + 1]! d[j]! = true) : Sort.shiftDown ltN (j + 1) d = Sort.shiftDown ltN j (Sort.swp d (j + 1) j) := by
  rw [Sort.shiftDown, if_neg (by simp [h])]
theorem shiftDown_stop {j : Nat} {d : Array Nat} (h : ltN d[j + 1]! d[j]! = false) : Sort.shiftDown ltN (j + 1) d = d := by
  rw [Sort.shiftDown, if_pos (by simp [h])]
theorem shiftUp_go {b j : Nat} {d : Array Nat} (hj : j < b) (h : ltN d[j]! d[j - 1]! = true) : Sort.shiftUp ltN b j d = Sort.shiftUp ltN b (j + 1) (Sort.swp d j (j - 1)) := by
  rw [Sort.shiftUp, if_pos hj, if_neg (by simp [h])]
theorem shiftUp_stop {b j : Nat} {d : Array Nat} (h : ¬ j < b ∨ ltN d[j]! d[j - 1]! = false) : Sort.shiftUp ltN b j d = d := by
  rw [Sort.shiftUp]
  by_cases hj : j < b
  · rw [if_pos hj, if_pos (by
      rcases h with h | h
      · exact absurd hj h
      · simp [h])]
  · rw [if_neg hj]
theorem shiftDown_size : ∀ (j : Nat) (d : Array Nat), (Sort.shiftDown ltN j d).size = d.size := by
  intro j
  induction j with
  | zero => intro d; rfl
  | succ j ih =>
    intro d
    cases h : ltN d[j + 1]! d[j]! with
    | true => rw [shiftDown_go h, ih, size_swp]
    | false => rw [shiftDown_stop h]
theorem shiftUp_size (b : Nat) : ∀ (m j : Nat) (d : Array Nat), b - j ≤ m → (Sort.shiftUp ltN b j d).size = d.size := by
  intro m
  induction m with
  | zero => intro j d h; rw [shiftUp_stop (.inl (by omega))]
  | succ m ih =>
    intro j d h
    by_cases hj : j < b
    · cases h : ltN d[j]! d[j - 1]! with
      | true => rw [shiftUp_go hj h, ih _ _ (by omega), size_swp]
      | false => rw [shiftUp_stop (.inr h)]
    · rw [shiftUp_stop (.inl hj)]
def pDown (a i : Nat) (d : Array Nat) : Array Nat := if 2 ≤ i - a then Sort.shiftDown ltN (i - 1) d else d
def pUp (b i : Nat) (d : Array Nat) : Array Nat := if 2 ≤ b - i then Sort.shiftUp ltN b (i + 1) d else d
theorem pDown_size (a i : Nat) (d : Array Nat) : (pDown a i d).size = d.size := by
  unfold pDown
  split
  · exact shiftDown_size _ _
  · rfl
theorem pUp_size (b i : Nat) (d : Array Nat) : (pUp b i d).size = d.size := by
  unfold pUp
  split
  · exact shiftUp_size b _ _ _ (Nat.le_refl _)
  · rfl
theorem partial_end {a b s i : Nat} {d : Array Nat} (h : Sort.scanSorted ltN d b i = b) : Sort.partialIns ltN a b (s + 1) i d = (d, true) := by
  rw [Sort.partialIns]
  simp only [h, if_true]
theorem partial_short {a b s i i2 : Nat} {d : Array Nat} (h : Sort.scanSorted ltN d b i = i2) (hne : i2 ≠ b) (hs : b - a < 50) : Sort.partialIns ltN a b (s + 1) i d = (d, false) := by
  rw [Sort.partialIns]
  simp only [h]
  rw [if_neg hne, if_pos hs]
theorem partial_go {a b s i i2 : Nat} {d : Array Nat} (h : Sort.scanSorted ltN d b i = i2) (hne : i2 ≠ b) (hs : ¬ b - a < 50) : Sort.partialIns ltN a b (s + 1) i d = Sort.partialIns ltN a b s i2 (pUp b i2 (pDown a i2 (Sort.swp d i2 (i2 - 1)))) := by
  rw [Sort.partialIns]
  simp only [h]
  rw [if_neg hne, if_neg hs]
  rfl
set_option maxRecDepth 100000 in
set_option maxHeartbeats 16000000 in
theorem pins_any (g cap n a b : Nat) (d : Array Nat) (w : World) (hr : Row w g cap d) (hn : d.size = n) (hab : a < b) (hb : b ≤ n) (hd : n ≤ 1000000) :
    Calls Try.prog 40 #[.slice (some ⟨g, 0, none⟩) n cap, .int .i64 (a : Int), .int .i64 (b : Int)] w fun e w' => e = .returned (.bool (Sort.partialInsertionSort ltN d a b).2) ∧ Row w' g cap (Sort.partialInsertionSort ltN d a b).1 ∧ Mod [g] w w' := by
  have HR0 := Lib.hid hr
  have HN0 := Lib.hid hn
  obtain ⟨R0, hR0⟩ : ∃ x, Sort.partialInsertionSort ltN d a b = x := ⟨_, rfl⟩
  have HRR : Hid (Sort.partialIns ltN a b 5 (a + 1) d = R0) := Lib.hid hR0
  rw [hR0]
  clear hr hn hR0
  go_enter Try.func40, Try.ntmps40
  go_wp2
  go_loopw [7, 8] (fun s7 s8 wr => ∃ (i k s : Nat) (d1 : Array Nat), a + 1 ≤ i ∧ i ≤ b ∧ k + s = 5 ∧ s7 = .int .i64 (i : Int) ∧ s8 = .int .i64 (k : Int) ∧ Row wr g cap d1 ∧ d1.size = n ∧ Sort.partialIns ltN a b s i d1 = R0 ∧ Mod [g] w wr) (fun _ s8 _ => 5 - (RowKit.intOf s8).toNat)
  case atStart => exact ⟨a + 1, 0, 5, d, Nat.le_refl _, by omega, rfl, by go_num, rfl, HR0.out, HN0.out, HRR.out, Mod.refl _ _⟩
  case round =>
    obtain ⟨i0, k, s, d1, hai0, hib0, hks, rfl, rfl, hR, hn, hD, hm⟩ := hrel
    have HR := Lib.hid hR
    have HN := Lib.hid hn
    have HD := Lib.hid hD
    have HM := Lib.hid hm
    clear hR hn hD hm HRR HR0
    by_cases hk : k < 5
    · obtain ⟨s, rfl⟩ : ∃ q, s = q + 1 := ⟨s - 1, by omega⟩
      have DK : decide ((k : Int) < 5) = true := decide_eq_true (by omega)
      obtain ⟨I, hI⟩ : ∃ x, Sort.scanSorted ltN d1 b i0 = x := ⟨_, rfl⟩
      have HI := Lib.hid hI
      have HEND : Hid (I = b → R0 = (d1, true)) := Lib.hid fun h => by rw [← HD.out]; exact partial_end (hI.trans h)
      have HSHORT : Hid (I ≠ b → b - a < 50 → R0 = (d1, false)) := Lib.hid fun h h1 => by rw [← HD.out]; exact partial_short hI h h1
      have HGO : Hid (I ≠ b → ¬ b - a < 50 → Sort.partialIns ltN a b s I (pUp b I (pDown a I (Sort.swp d1 I (I - 1)))) = R0) := Lib.hid fun h h1 => by rw [← HD.out]; exact (partial_go hI h h1).symm
      clear hI HD
      go_wp2
      go_loopw [7] (fun s7 wq => ∃ i : Nat, a + 1 ≤ i ∧ i ≤ b ∧ s7 = .int .i64 (i : Int) ∧ Sort.scanSorted ltN d1 b i = I ∧ Mod [] wr wq) (fun s7 _ => b - (RowKit.intOf s7).toNat)
      case atStart => exact ⟨i0, hai0, hib0, rfl, HI.out, Mod.refl _ _⟩
      case round =>
        rename World => wq
        obtain ⟨i, hai, hib, rfl, hI2, hm⟩ := hrel
        have HI2 := Lib.hid hI2
        have HMq := Lib.hid hm
        have HRq := Lib.hid (HR.out.mod0 hm)
        clear hI2 hm
        obtain ⟨im, him⟩ : ∃ q, i - 1 = q := ⟨_, rfl⟩
        have eim : IntKind.i64.wrap ((i : Int) - 1) = (im : Int) := by rw [show (i : Int) - 1 = (im : Int) by omega]; exact IntWalk.i64_in _ (by omega)
        obtain ⟨blAc, hblAc⟩ : ∃ q, (decide (i < b) && !ltN (d1)[i]! (d1)[im]!) = q := ⟨_, rfl⟩
        have HCA := Lib.hid hblAc
        clear hblAc
        go_upto_region 5 with (fail)
        go_cut [32] from 17 to 33 (fun s wx => s = .bool blAc ∧ Mod [] wq wx)
        case first =>
          by_cases hgA : i < b
          · have DGA : decide (i < b) = true := decide_eq_true (by omega)
            have Bi : (i : Int) < (n : Int) := by omega
            have Bim : (im : Int) < (n : Int) := by omega
            obtain ⟨xA, hxA⟩ : ∃ q, (d1)[i]! = q := ⟨_, rfl⟩
            obtain ⟨yA, hyA⟩ : ∃ q, (d1)[im]! = q := ⟨_, rfl⟩
            have CXA := Lib.hid (HRq.out.cell (i := i) (by rw [HN.out]; omega) hxA)
            have CYA := Lib.hid (HRq.out.cell (i := im) (by rw [HN.out]; omega) hyA)
            obtain ⟨blA, hblA⟩ : ∃ q, ltN xA yA = q := ⟨_, rfl⟩
            have HLA := Lib.hid (less_any xA yA blA hblA)
            have HBA : Hid (ltN (d1)[i]! (d1)[im]! = blA) := Lib.hid (by rw [hxA, hyA]; exact hblA)
            clear hxA hyA hblA
            refine rest_start [] 16 #[false, false, false, false, false, false, false, false, false, false, false, false, false, false, false, false] rfl (by kernel_rfl) (by kernel_rfl) ?_
            intro uA mA
            have CXA6 := Lib.hid (mA.cell CXA.out List.not_mem_nil)
            have CYA6 := Lib.hid (mA.cell CYA.out List.not_mem_nil)
            have NA := Lib.hid mA
            have HLA6 := Lib.hid (HLA.out uA)
            clear mA
            refine rest_got (i := 0) (v := ?v1) rfl (by kernel_rfl) (by kernel_rfl) (by kernel_rfl) (fun _ _ _ h => h) (by rfl) ?y1 ?r1
            case y1 => (intro w9q hSwq; clear hSwq; go_simp; with_reducible rfl)
            try simp only [Act.put, List.setIfInBounds_toArray, List.set_cons_zero, List.set_cons_succ]
            refine rest_got (i := 1) (v := ?v2) rfl (by kernel_rfl) (by kernel_rfl) (by kernel_rfl) (fun _ _ _ h => h) (by rfl) ?y2 ?r2
            case y2 => (intro w9q hSwq; clear hSwq; go_simp; with_reducible rfl)
            try simp only [Act.put, List.setIfInBounds_toArray, List.set_cons_zero, List.set_cons_succ]
            refine rest_got (i := 2) (v := ?v3) rfl (by kernel_rfl) (by kernel_rfl) (by kernel_rfl) (fun _ _ _ h => h) (by rfl) ?y3 ?r3
            case y3 => (intro w9q hSwq; clear hSwq; go_simp; with_reducible rfl)
            try simp only [Act.put, List.setIfInBounds_toArray, List.set_cons_zero, List.set_cons_succ]
            refine rest_got (i := 3) (v := ?v4) rfl (by kernel_rfl) (by kernel_rfl) (by kernel_rfl) (fun _ _ _ h => h) (by rfl) ?y4 ?r4
            case y4 => (intro w9q hSwq; clear hSwq; go_simp; with_reducible rfl)
            try simp only [Act.put, List.setIfInBounds_toArray, List.set_cons_zero, List.set_cons_succ]
            refine rest_got (i := 4) (v := ?v5) rfl (by kernel_rfl) (by kernel_rfl) (by kernel_rfl) (fun _ _ _ h => h) (by rfl) ?y5 ?r5
            case y5 => (intro w9q hSwq; clear hSwq; go_simp; with_reducible rfl)
            try simp only [Act.put, List.setIfInBounds_toArray, List.set_cons_zero, List.set_cons_succ]
            refine rest_got (i := 5) (v := ?v6) rfl (by kernel_rfl) (by kernel_rfl) (by kernel_rfl) (fun _ _ _ h => h) (by rfl) ?y6 ?r6
            case y6 => (intro w9q hSwq; clear hSwq; go_simp; with_reducible rfl)
            try simp only [Act.put, List.setIfInBounds_toArray, List.set_cons_zero, List.set_cons_succ]
            refine rest_got (i := 6) (v := ?v7) rfl (by kernel_rfl) (by kernel_rfl) (by kernel_rfl) (fun _ _ _ h => h) (by rfl) ?y7 ?r7
            case y7 => (intro w9q hSwq; clear hSwq; go_simp; with_reducible rfl)
            try simp only [Act.put, List.setIfInBounds_toArray, List.set_cons_zero, List.set_cons_succ]
            refine rest_got (i := 7) (v := ?v8) rfl (by kernel_rfl) (by kernel_rfl) (by kernel_rfl) (fun _ _ _ h => h) (by rfl) ?y8 ?r8
            case y8 => ((intro w9' hm9'; have hc9' := Mod.cell hm9' CXA6.out (by first | exact List.not_mem_nil | assumption | (simp; done) | (simp; omega)); clear hm9'; go_simp; with_reducible rfl))
            try simp only [Act.put, List.setIfInBounds_toArray, List.set_cons_zero, List.set_cons_succ]
            refine rest_got (i := 8) (v := ?v9) rfl (by kernel_rfl) (by kernel_rfl) (by kernel_rfl) (fun _ _ _ h => h) (by rfl) ?y9 ?r9
            case y9 => (intro w9q hSwq; clear hSwq; go_simp; with_reducible rfl)
            try simp only [Act.put, List.setIfInBounds_toArray, List.set_cons_zero, List.set_cons_succ]
            refine rest_got (i := 9) (v := ?v10) rfl (by kernel_rfl) (by kernel_rfl) (by kernel_rfl) (fun _ _ _ h => h) (by rfl) ?y10 ?r10
            case y10 => (intro w9q hSwq; clear hSwq; go_simp; with_reducible rfl)
            try simp only [Act.put, List.setIfInBounds_toArray, List.set_cons_zero, List.set_cons_succ]
            refine rest_got (i := 10) (v := ?v11) rfl (by kernel_rfl) (by kernel_rfl) (by kernel_rfl) (fun _ _ _ h => h) (by rfl) ?y11 ?r11
            case y11 => (intro w9q hSwq; clear hSwq; go_simp; with_reducible rfl)
            try simp only [Act.put, List.setIfInBounds_toArray, List.set_cons_zero, List.set_cons_succ]
            refine rest_got (i := 11) (v := ?v12) rfl (by kernel_rfl) (by kernel_rfl) (by kernel_rfl) (fun _ _ _ h => h) (by rfl) ?y12 ?r12
            case y12 => (intro w9q hSwq; clear hSwq; go_simp; with_reducible rfl)
            try simp only [Act.put, List.setIfInBounds_toArray, List.set_cons_zero, List.set_cons_succ]
            refine rest_got (i := 12) (v := ?v13) rfl (by kernel_rfl) (by kernel_rfl) (by kernel_rfl) (fun _ _ _ h => h) (by rfl) ?y13 ?r13
            case y13 => ((intro w9' hm9'; have hc9' := Mod.cell hm9' CYA6.out (by first | exact List.not_mem_nil | assumption | (simp; done) | (simp; omega)); clear hm9'; go_simp; with_reducible rfl))
            try simp only [Act.put, List.setIfInBounds_toArray, List.set_cons_zero, List.set_cons_succ]
            refine rest_one (i := 13) (by kernel_rfl) rfl (by rfl) ?_
            go_wp2_with fail
            refine HLA6.out.mono ?_
            rintro e wA ⟨rfl, rfl⟩
            go_wp2_with fail
            refine back_to (K1 := []) (Mod.refl _ _) (by simp) ?_
            clear HLA6 CXA6 CYA6
            refine rest_got (i := 14) (v := ?v14) rfl (by kernel_rfl) (by kernel_rfl) (by kernel_rfl) (fun _ _ _ h => h) (by rfl) ?y14 ?r14
            case y14 => (intro w9q hSwq; clear hSwq; go_simp; with_reducible rfl)
            try simp only [Act.put, List.setIfInBounds_toArray, List.set_cons_zero, List.set_cons_succ]
            refine rest_got (i := 15) (v := ?v15) rfl (by kernel_rfl) (by kernel_rfl) (by kernel_rfl) (fun _ _ _ h => h) (by rfl) ?y15 ?r15
            case y15 => (intro w9q hSwq; clear hSwq; go_simp; with_reducible rfl)
            try simp only [Act.put, List.setIfInBounds_toArray, List.set_cons_zero, List.set_cons_succ]
            refine rest_done (by kernel_rfl) ?_ _
            have RA := Lib.hid (HRq.out.mod0 NA.out)
            have MA := Lib.hid NA.out
            clear NA CXA CYA HLA
            go_wp2
            go_meet
            exact ⟨by rw [← HCA.out, HBA.out, decide_eq_true hgA]; cases blA <;> rfl, MA.out⟩
          · have DGA : decide (i < b) = false := decide_eq_false (by omega)
            refine rest_start [] 16 #[false, false, false, false, false, false, false, false, false, false, false, false, false, false, false, false] rfl (by kernel_rfl) (by kernel_rfl) ?_
            intro uA mA
            have NA := Lib.hid mA
            clear mA
            refine rest_got (i := 0) (v := ?v16) rfl (by kernel_rfl) (by kernel_rfl) (by kernel_rfl) (fun _ _ _ h => h) (by rfl) ?y16 ?r16
            case y16 => (intro w9q hSwq; clear hSwq; go_simp; with_reducible rfl)
            try simp only [Act.put, List.setIfInBounds_toArray, List.set_cons_zero, List.set_cons_succ]
            refine rest_got (i := 1) (v := ?v17) rfl (by kernel_rfl) (by kernel_rfl) (by kernel_rfl) (fun _ _ _ h => h) (by rfl) ?y17 ?r17
            case y17 => (intro w9q hSwq; clear hSwq; go_simp; with_reducible rfl)
            try simp only [Act.put, List.setIfInBounds_toArray, List.set_cons_zero, List.set_cons_succ]
            refine rest_got (i := 2) (v := ?v18) rfl (by kernel_rfl) (by kernel_rfl) (by kernel_rfl) (fun _ _ _ h => h) (by rfl) ?y18 ?r18
            case y18 => (intro w9q hSwq; clear hSwq; go_simp; with_reducible rfl)
            try simp only [Act.put, List.setIfInBounds_toArray, List.set_cons_zero, List.set_cons_succ]
            refine rest_got (i := 3) (v := ?v19) rfl (by kernel_rfl) (by kernel_rfl) (by kernel_rfl) (fun _ _ _ h => h) (by rfl) ?y19 ?r19
            case y19 => (intro w9q hSwq; clear hSwq; go_simp; with_reducible rfl)
            try simp only [Act.put, List.setIfInBounds_toArray, List.set_cons_zero, List.set_cons_succ]
            refine rest_skip (i := 4) rfl (by kernel_rfl) (by kernel_rfl) (by kernel_rfl) (fun _ _ _ h => h) (by rfl) ?_
            try simp only [Act.put, List.setIfInBounds_toArray, List.set_cons_zero, List.set_cons_succ]
            refine rest_skip (i := 5) rfl (by kernel_rfl) (by kernel_rfl) (by kernel_rfl) (fun _ _ _ h => h) (by rfl) ?_
            try simp only [Act.put, List.setIfInBounds_toArray, List.set_cons_zero, List.set_cons_succ]
            refine rest_skip (i := 6) rfl (by kernel_rfl) (by kernel_rfl) (by kernel_rfl) (fun _ _ _ h => h) (by rfl) ?_
            try simp only [Act.put, List.setIfInBounds_toArray, List.set_cons_zero, List.set_cons_succ]
            refine rest_skip (i := 7) rfl (by kernel_rfl) (by kernel_rfl) (by kernel_rfl) (fun _ _ _ h => h) (by rfl) ?_
            try simp only [Act.put, List.setIfInBounds_toArray, List.set_cons_zero, List.set_cons_succ]
            refine rest_skip (i := 8) rfl (by kernel_rfl) (by kernel_rfl) (by kernel_rfl) (fun _ _ _ h => h) (by rfl) ?_
            try simp only [Act.put, List.setIfInBounds_toArray, List.set_cons_zero, List.set_cons_succ]
            refine rest_skip (i := 9) rfl (by kernel_rfl) (by kernel_rfl) (by kernel_rfl) (fun _ _ _ h => h) (by rfl) ?_
            try simp only [Act.put, List.setIfInBounds_toArray, List.set_cons_zero, List.set_cons_succ]
            refine rest_skip (i := 10) rfl (by kernel_rfl) (by kernel_rfl) (by kernel_rfl) (fun _ _ _ h => h) (by rfl) ?_
            try simp only [Act.put, List.setIfInBounds_toArray, List.set_cons_zero, List.set_cons_succ]
            refine rest_skip (i := 11) rfl (by kernel_rfl) (by kernel_rfl) (by kernel_rfl) (fun _ _ _ h => h) (by rfl) ?_
            try simp only [Act.put, List.setIfInBounds_toArray, List.set_cons_zero, List.set_cons_succ]
            refine rest_skip (i := 12) rfl (by kernel_rfl) (by kernel_rfl) (by kernel_rfl) (fun _ _ _ h => h) (by rfl) ?_
            try simp only [Act.put, List.setIfInBounds_toArray, List.set_cons_zero, List.set_cons_succ]
            refine rest_skip (i := 13) rfl (by kernel_rfl) (by kernel_rfl) (by kernel_rfl) (fun _ _ _ h => h) (by rfl) ?_
            try simp only [Act.put, List.setIfInBounds_toArray, List.set_cons_zero, List.set_cons_succ]
            refine rest_skip (i := 14) rfl (by kernel_rfl) (by kernel_rfl) (by kernel_rfl) (fun _ _ _ h => h) (by rfl) ?_
            try simp only [Act.put, List.setIfInBounds_toArray, List.set_cons_zero, List.set_cons_succ]
            refine rest_got (i := 15) (v := ?v20) rfl (by kernel_rfl) (by kernel_rfl) (by kernel_rfl) (fun _ _ _ h => h) (by rfl) ?y20 ?r20
            case y20 => (intro w9q hSwq; clear hSwq; go_simp; with_reducible rfl)
            try simp only [Act.put, List.setIfInBounds_toArray, List.set_cons_zero, List.set_cons_succ]
            refine rest_done (by kernel_rfl) ?_ _
            go_wp2
            go_meet
            exact ⟨by rw [← HCA.out, decide_eq_false hgA]; rfl, NA.out⟩
        rename World => wAc
        obtain ⟨rfl, hmAc⟩ := hcut
        have MCA := Lib.hid hmAc
        have RCA := Lib.hid (HRq.out.mod0 hmAc)
        clear hmAc
        cases blAc with
        | true =>
          have HI3 := Lib.hid ((sorted_go (by rw [him]; exact HCA.out)).symm.trans HI2.out)
          have hij : i < b := by have := HCA.out; rw [Bool.and_eq_true, decide_eq_true_eq] at this; exact this.1
          go_wp2
          go_roundw
          case rel => exact ⟨i + 1, by omega, by omega, by go_num, HI3.out, HMq.out.trans' MCA.out⟩
          case measure => first | (simp [RowKit.intOf]; done) | (simp [RowKit.intOf]; omega)
        | false =>
          have hii : i = I := (sorted_stop (by rw [him]; exact HCA.out)).symm.trans HI2.out
          subst hii
          clear HI2 HI HCA
          have HMw := Lib.hid ((HM.out.trans0 HMq.out).trans0 MCA.out)
          clear HMq MCA HM HR
          by_cases heb : i = b
          · have DE : ((i : Int) == (b : Int)) = true := by rw [heb]; exact beq_self_eq_true _
            have hR := HEND.out heb
            clear HEND HSHORT HGO
            go_wp2
            go_ret
            rw [hR]
            exact ⟨rfl, RCA.out, HMw.out⟩
          · have DE : ((i : Int) == (b : Int)) = false := by rw [beq_eq_false_iff_ne]; omega
            by_cases h50 : b - a < 50
            · have DG50 : decide ((b : Int) - (a : Int) < 50) = true := decide_eq_true (by omega)
              have hR := HSHORT.out heb h50
              clear HEND HSHORT HGO
              go_wp2
              go_ret
              rw [hR]
              exact ⟨rfl, RCA.out, HMw.out⟩
            · have DG50 : decide ((b : Int) - (a : Int) < 50) = false := decide_eq_false (by omega)
              have HG := Lib.hid (HGO.out heb h50)
              have Bi : (i : Int) < (n : Int) := by omega
              have Bim : (im : Int) < (n : Int) := by omega
              clear HEND HSHORT HGO
              obtain ⟨xiS, hxiS⟩ : ∃ x, (d1)[i]! = x := ⟨_, rfl⟩
              obtain ⟨xjS, hxjS⟩ : ∃ x, (d1)[im]! = x := ⟨_, rfl⟩
              have HSIS : Hid ((d1)[i]! = xiS) := Lib.hid hxiS
              have HSJS : Hid ((d1)[im]! = xjS) := Lib.hid hxjS
              have HBIS : i < (d1).size := by rw [HN.out]; omega
              have HBJS : im < (d1).size := by rw [HN.out]; omega
              clear hxiS hxjS
              go_upto_region 11 with (fail)
              refine restu_start 15 [] [g] 18 #[false, false, false, false, false, false, false, false, false, false, false, false, false, false, false, false, false, false] rfl (by kernel_rfl) (by kernel_rfl) ?_
              intro vS nS
              have RvS := Lib.hid (RCA.out.mod0 nS)
              have CiS := Lib.hid (RvS.out.cell HBIS HSIS.out)
              have CjS := Lib.hid (RvS.out.cell HBJS HSJS.out)
              have NvS := Lib.hid nS
              clear nS
              refine restu_got (i := 0) (v := ?v21) rfl (by kernel_rfl) (by kernel_rfl) (by kernel_rfl) (by rfl) (fun _ _ _ h => h) (by rfl) ?y21 ?r21
              case y21 => (intro w9q hSwq; clear hSwq; go_simp; with_reducible rfl)
              try simp only [Act.put, List.setIfInBounds_toArray, List.set_cons_zero, List.set_cons_succ]
              refine restu_got (i := 1) (v := ?v22) rfl (by kernel_rfl) (by kernel_rfl) (by kernel_rfl) (by rfl) (fun _ _ _ h => h) (by rfl) ?y22 ?r22
              case y22 => (intro w9q hSwq; clear hSwq; go_simp; with_reducible rfl)
              try simp only [Act.put, List.setIfInBounds_toArray, List.set_cons_zero, List.set_cons_succ]
              refine restu_got (i := 2) (v := ?v23) rfl (by kernel_rfl) (by kernel_rfl) (by kernel_rfl) (by rfl) (fun _ _ _ h => h) (by rfl) ?y23 ?r23
              case y23 => (intro w9q hSwq; clear hSwq; go_simp; with_reducible rfl)
              try simp only [Act.put, List.setIfInBounds_toArray, List.set_cons_zero, List.set_cons_succ]
              refine restu_got (i := 3) (v := ?v24) rfl (by kernel_rfl) (by kernel_rfl) (by kernel_rfl) (by rfl) (fun _ _ _ h => h) (by rfl) ?y24 ?r24
              case y24 => (intro w9q hSwq; clear hSwq; go_simp; with_reducible rfl)
              try simp only [Act.put, List.setIfInBounds_toArray, List.set_cons_zero, List.set_cons_succ]
              refine restu_got (i := 4) (v := ?v25) rfl (by kernel_rfl) (by kernel_rfl) (by kernel_rfl) (by rfl) (fun _ _ _ h => h) (by rfl) ?y25 ?r25
              case y25 => (intro w9q hSwq; clear hSwq; go_simp; with_reducible rfl)
              try simp only [Act.put, List.setIfInBounds_toArray, List.set_cons_zero, List.set_cons_succ]
              refine restu_got (i := 5) (v := ?v26) rfl (by kernel_rfl) (by kernel_rfl) (by kernel_rfl) (by rfl) (fun _ _ _ h => h) (by rfl) ?y26 ?r26
              case y26 => (intro w9q hSwq; clear hSwq; go_simp; with_reducible rfl)
              try simp only [Act.put, List.setIfInBounds_toArray, List.set_cons_zero, List.set_cons_succ]
              refine restu_got (i := 6) (v := ?v27) rfl (by kernel_rfl) (by kernel_rfl) (by kernel_rfl) (by rfl) (fun _ _ _ h => h) (by rfl) ?y27 ?r27
              case y27 => (intro w9q hSwq; clear hSwq; go_simp; with_reducible rfl)
              try simp only [Act.put, List.setIfInBounds_toArray, List.set_cons_zero, List.set_cons_succ]
              refine restu_got (i := 7) (v := ?v28) rfl (by kernel_rfl) (by kernel_rfl) (by kernel_rfl) (by rfl) (fun _ _ _ h => h) (by rfl) ?y28 ?r28
              case y28 => (intro w9q hSwq; clear hSwq; go_simp; with_reducible rfl)
              try simp only [Act.put, List.setIfInBounds_toArray, List.set_cons_zero, List.set_cons_succ]
              refine restu_got (i := 8) (v := ?v29) rfl (by kernel_rfl) (by kernel_rfl) (by kernel_rfl) (by rfl) (fun _ _ _ h => h) (by rfl) ?y29 ?r29
              case y29 => (intro w9q hSwq; clear hSwq; go_simp; with_reducible rfl)
              try simp only [Act.put, List.setIfInBounds_toArray, List.set_cons_zero, List.set_cons_succ]
              refine restu_early (i := 9) [14, 15, 16, 17] (v := ?v30) rfl (by kernel_rfl) (by kernel_rfl) (by kernel_rfl) (by rfl) (by kernel_rfl) (by rfl) (by kernel_rfl) (fun _ _ _ h => h) (by rfl) ?y30 ?r30
              case y30 => ((intro w9' hm9'; have hc9' := Mod.cell hm9' CjS.out (by first | exact List.not_mem_nil | assumption | (simp; done) | (simp; omega)); clear hm9'; go_simp; with_reducible rfl))
              try simp only [Act.put, List.setIfInBounds_toArray, List.set_cons_zero, List.set_cons_succ]
              refine restu_got (i := 10) (v := ?v31) rfl (by kernel_rfl) (by kernel_rfl) (by kernel_rfl) (by rfl) (fun _ _ _ h => h) (by rfl) ?y31 ?r31
              case y31 => (intro w9q hSwq; clear hSwq; go_simp; with_reducible rfl)
              try simp only [Act.put, List.setIfInBounds_toArray, List.set_cons_zero, List.set_cons_succ]
              refine restu_got (i := 11) (v := ?v32) rfl (by kernel_rfl) (by kernel_rfl) (by kernel_rfl) (by rfl) (fun _ _ _ h => h) (by rfl) ?y32 ?r32
              case y32 => (intro w9q hSwq; clear hSwq; go_simp; with_reducible rfl)
              try simp only [Act.put, List.setIfInBounds_toArray, List.set_cons_zero, List.set_cons_succ]
              refine restu_got (i := 12) (v := ?v33) rfl (by kernel_rfl) (by kernel_rfl) (by kernel_rfl) (by rfl) (fun _ _ _ h => h) (by rfl) ?y33 ?r33
              case y33 => (intro w9q hSwq; clear hSwq; go_simp; with_reducible rfl)
              try simp only [Act.put, List.setIfInBounds_toArray, List.set_cons_zero, List.set_cons_succ]
              refine restu_early (i := 13) [14, 15, 16, 17] (v := ?v34) rfl (by kernel_rfl) (by kernel_rfl) (by kernel_rfl) (by rfl) (by kernel_rfl) (by rfl) (by kernel_rfl) (fun _ _ _ h => h) (by rfl) ?y34 ?r34
              case y34 => ((intro w9' hm9'; have hc9' := Mod.cell hm9' CiS.out (by first | exact List.not_mem_nil | assumption | (simp; done) | (simp; omega)); clear hm9'; go_simp; with_reducible rfl))
              try simp only [Act.put, List.setIfInBounds_toArray, List.set_cons_zero, List.set_cons_succ]
              refine restu_got (i := 14) (v := ?v35) rfl (by kernel_rfl) (by kernel_rfl) (by kernel_rfl) (by rfl) (fun _ _ _ h => h) (by rfl) ?y35 ?r35
              case y35 => (intro w9q hSwq; clear hSwq; go_simp; with_reducible rfl)
              try simp only [Act.put, List.setIfInBounds_toArray, List.set_cons_zero, List.set_cons_succ]
              refine restu_one (i := 15) (by kernel_rfl) rfl (by rfl) ?_
              have ciS := (RvS.out.at' HBIS).1
              have fiS := (RvS.out.at' HBIS).2
              go_wp2_with fail
              have RaS := Lib.hid (RvS.out.set i xjS)
              have naS : Mod [g] vS (vS.setCell ⟨g, i, none⟩ (.int .u32 (xjS : Int))) := Mod.setCell _ _ _ (by simp)
              have NaS := Lib.hid (NvS.out.nil.trans' naS)
              have RbS := Lib.hid (RvS.out.swp HSIS.out HSJS.out)
              refine backm_to (K1 := [g]) (by kernel_rfl) naS (fun _ h _ => h) ?_
              clear naS ciS fiS CiS CjS NvS RvS
              refine rest_got (i := 16) (v := ?v36) rfl (by kernel_rfl) (by kernel_rfl) (by kernel_rfl) (fun _ _ _ h => h) (by rfl) ?y36 ?r36
              case y36 => (intro w9q hSwq; clear hSwq; go_simp; with_reducible rfl)
              try simp only [Act.put, List.setIfInBounds_toArray, List.set_cons_zero, List.set_cons_succ]
              refine rest_one (i := 17) (by kernel_rfl) rfl (by rfl) ?_
              have cjS := (RaS.out.at' (i := im) (by rw [Array.size_setIfInBounds]; exact HBJS)).1
              have fjS := (RaS.out.at' (i := im) (by rw [Array.size_setIfInBounds]; exact HBJS)).2
              go_wp2_with fail
              have nbS : Mod [g] (vS.setCell ⟨g, i, none⟩ (.int .u32 (xjS : Int))) ((vS.setCell ⟨g, i, none⟩ (.int .u32 (xjS : Int))).setCell ⟨g, im, none⟩ (.int .u32 (xiS : Int))) := Mod.setCell _ _ _ (by simp)
              have MS := Lib.hid (NaS.out.trans' nbS)
              have RS := Lib.hid RbS.out
              refine back_to (K1 := []) nbS (by simp) ?_
              clear nbS cjS fjS NaS RaS RbS HSIS HSJS
              refine rest_done (by kernel_rfl) ?_ _
              obtain ⟨wS, hwS⟩ : ∃ x, (vS.setCell ⟨g, i, none⟩ (.int .u32 (xjS : Int))).setCell ⟨g, im, none⟩ (.int .u32 (xiS : Int)) = x := ⟨_, rfl⟩
              rw [hwS] at RS MS ⊢
              clear hwS
              have HMS := Lib.hid (HMw.out.trans' MS.out)
              rw [him] at HG
              obtain ⟨d2, hd2⟩ : ∃ x, Sort.swp d1 i im = x := ⟨_, rfl⟩
              have HN2 : Hid (d2.size = n) := Lib.hid (by rw [← hd2, size_swp, HN.out])
              rw [hd2] at HG RS
              obtain ⟨d3, hd3⟩ : ∃ x, pDown a i d2 = x := ⟨_, rfl⟩
              have HD3 := Lib.hid hd3
              have HN3 : Hid (d3.size = n) := Lib.hid (by rw [← hd3, pDown_size, HN2.out])
              rw [hd3] at HG
              obtain ⟨d4, hd4⟩ : ∃ x, pUp b i d3 = x := ⟨_, rfl⟩
              have HD4 := Lib.hid hd4
              have HN4 : Hid (d4.size = n) := Lib.hid (by rw [← hd4, pUp_size, HN3.out])
              rw [hd4] at HG
              clear hd2 hd3 hd4 HMw MS RCA HN
              go_upto_if 61 with (fail)
              go_cut [9] from 61 to 94 (fun _ wx => Row wx g cap d3 ∧ Mod [g] wS wx)
              case first =>
                by_cases h2 : 2 ≤ i - a
                · have DG2 : decide ((2 : Int) ≤ (i : Int) - (a : Int)) = true := decide_eq_true (by omega)
                  have HS0 : Hid (Sort.shiftDown ltN im d2 = d3) := Lib.hid (by
                    have := HD3.out
                    unfold pDown at this
                    rw [if_pos h2, him] at this
                    exact this)
                  have eim2 : (i : Int) - 1 = (im : Int) := by omega
                  simp only [DG2]
                  go_wp2
                  go_loopw [9] (fun s9 wq => ∃ (j : Nat) (d5 : Array Nat), j ≤ im ∧ s9 = .int .i64 (j : Int) ∧ Row wq g cap d5 ∧ d5.size = n ∧ Sort.shiftDown ltN j d5 = d3 ∧ Mod [g] wS wq) (fun s9 _ => (RowKit.intOf s9).toNat)
                  case atStart => exact ⟨im, d2, Nat.le_refl _, by first | rfl | (congr 1; omega), RS.out, HN2.out, HS0.out, Mod.refl _ _⟩
                  case round =>
                    rename World => wr5
                    obtain ⟨j, d5, hj, rfl, hR, hn, hD, hm⟩ := hrel
                    have HR5 := Lib.hid hR
                    have HN5 := Lib.hid hn
                    have HD5 := Lib.hid hD
                    have HM5 := Lib.hid hm
                    clear hR hn hD hm
                    by_cases hj0 : 0 < j
                    · have DJ : decide ((1 : Int) ≤ (j : Int)) = true := decide_eq_true (by omega)
                      obtain ⟨jm, hjm⟩ : ∃ q, j - 1 = q := ⟨_, rfl⟩
                      have HJJ : Hid (j = jm + 1) := Lib.hid (by omega)
                      have ejm : IntKind.i64.wrap ((j : Int) - 1) = (jm : Int) := by rw [show (j : Int) - 1 = (jm : Int) by omega]; exact IntWalk.i64_in _ (by omega)
                      have Bj : (j : Int) < (n : Int) := by omega
                      have Bjm : (jm : Int) < (n : Int) := by omega
                      obtain ⟨xB, hxB⟩ : ∃ q, (d5)[j]! = q := ⟨_, rfl⟩
                      obtain ⟨yB, hyB⟩ : ∃ q, (d5)[jm]! = q := ⟨_, rfl⟩
                      have CXB := Lib.hid (HR5.out.cell (i := j) (by rw [HN5.out]; omega) hxB)
                      have CYB := Lib.hid (HR5.out.cell (i := jm) (by rw [HN5.out]; omega) hyB)
                      obtain ⟨blB, hblB⟩ : ∃ q, ltN xB yB = q := ⟨_, rfl⟩
                      have HLB := Lib.hid (less_any xB yB blB hblB)
                      have HBB : Hid (ltN (d5)[j]! (d5)[jm]! = blB) := Lib.hid (by rw [hxB, hyB]; exact hblB)
                      clear hxB hyB hblB
                      go_upto_region 16 with (fail)
                      refine rest_start [] 11 #[false, false, false, false, false, false, false, false, false, false, false] rfl (by kernel_rfl) (by kernel_rfl) ?_
                      intro uB mB
                      have CXB6 := Lib.hid (mB.cell CXB.out List.not_mem_nil)
                      have CYB6 := Lib.hid (mB.cell CYB.out List.not_mem_nil)
                      have NB := Lib.hid mB
                      have HLB6 := Lib.hid (HLB.out uB)
                      clear mB
                      refine rest_got (i := 0) (v := ?v37) rfl (by kernel_rfl) (by kernel_rfl) (by kernel_rfl) (fun _ _ _ h => h) (by rfl) ?y37 ?r37
                      case y37 => (intro w9q hSwq; clear hSwq; go_simp; with_reducible rfl)
                      try simp only [Act.put, List.setIfInBounds_toArray, List.set_cons_zero, List.set_cons_succ]
                      refine rest_got (i := 1) (v := ?v38) rfl (by kernel_rfl) (by kernel_rfl) (by kernel_rfl) (fun _ _ _ h => h) (by rfl) ?y38 ?r38
                      case y38 => (intro w9q hSwq; clear hSwq; go_simp; with_reducible rfl)
                      try simp only [Act.put, List.setIfInBounds_toArray, List.set_cons_zero, List.set_cons_succ]
                      refine rest_got (i := 2) (v := ?v39) rfl (by kernel_rfl) (by kernel_rfl) (by kernel_rfl) (fun _ _ _ h => h) (by rfl) ?y39 ?r39
                      case y39 => (intro w9q hSwq; clear hSwq; go_simp; with_reducible rfl)
                      try simp only [Act.put, List.setIfInBounds_toArray, List.set_cons_zero, List.set_cons_succ]
                      refine rest_got (i := 3) (v := ?v40) rfl (by kernel_rfl) (by kernel_rfl) (by kernel_rfl) (fun _ _ _ h => h) (by rfl) ?y40 ?r40
                      case y40 => ((intro w9' hm9'; have hc9' := Mod.cell hm9' CXB6.out (by first | exact List.not_mem_nil | assumption | (simp; done) | (simp; omega)); clear hm9'; go_simp; with_reducible rfl))
                      try simp only [Act.put, List.setIfInBounds_toArray, List.set_cons_zero, List.set_cons_succ]
                      refine rest_got (i := 4) (v := ?v41) rfl (by kernel_rfl) (by kernel_rfl) (by kernel_rfl) (fun _ _ _ h => h) (by rfl) ?y41 ?r41
                      case y41 => (intro w9q hSwq; clear hSwq; go_simp; with_reducible rfl)
                      try simp only [Act.put, List.setIfInBounds_toArray, List.set_cons_zero, List.set_cons_succ]
                      refine rest_got (i := 5) (v := ?v42) rfl (by kernel_rfl) (by kernel_rfl) (by kernel_rfl) (fun _ _ _ h => h) (by rfl) ?y42 ?r42
                      case y42 => (intro w9q hSwq; clear hSwq; go_simp; with_reducible rfl)
                      try simp only [Act.put, List.setIfInBounds_toArray, List.set_cons_zero, List.set_cons_succ]
                      refine rest_got (i := 6) (v := ?v43) rfl (by kernel_rfl) (by kernel_rfl) (by kernel_rfl) (fun _ _ _ h => h) (by rfl) ?y43 ?r43
                      case y43 => (intro w9q hSwq; clear hSwq; go_simp; with_reducible rfl)
                      try simp only [Act.put, List.setIfInBounds_toArray, List.set_cons_zero, List.set_cons_succ]
                      refine rest_got (i := 7) (v := ?v44) rfl (by kernel_rfl) (by kernel_rfl) (by kernel_rfl) (fun _ _ _ h => h) (by rfl) ?y44 ?r44
                      case y44 => (intro w9q hSwq; clear hSwq; go_simp; with_reducible rfl)
                      try simp only [Act.put, List.setIfInBounds_toArray, List.set_cons_zero, List.set_cons_succ]
                      refine rest_got (i := 8) (v := ?v45) rfl (by kernel_rfl) (by kernel_rfl) (by kernel_rfl) (fun _ _ _ h => h) (by rfl) ?y45 ?r45
                      case y45 => ((intro w9' hm9'; have hc9' := Mod.cell hm9' CYB6.out (by first | exact List.not_mem_nil | assumption | (simp; done) | (simp; omega)); clear hm9'; go_simp; with_reducible rfl))
                      try simp only [Act.put, List.setIfInBounds_toArray, List.set_cons_zero, List.set_cons_succ]
                      refine rest_one (i := 9) (by kernel_rfl) rfl (by rfl) ?_
                      go_wp2_with fail
                      refine HLB6.out.mono ?_
                      rintro e wB ⟨rfl, rfl⟩
                      go_wp2_with fail
                      refine back_to (K1 := []) (Mod.refl _ _) (by simp) ?_
                      clear HLB6 CXB6 CYB6
                      refine rest_got (i := 10) (v := ?v46) rfl (by kernel_rfl) (by kernel_rfl) (by kernel_rfl) (fun _ _ _ h => h) (by rfl) ?y46 ?r46
                      case y46 => (intro w9q hSwq; clear hSwq; go_simp; with_reducible rfl)
                      try simp only [Act.put, List.setIfInBounds_toArray, List.set_cons_zero, List.set_cons_succ]
                      refine rest_done (by kernel_rfl) ?_ _
                      have RB := Lib.hid (HR5.out.mod0 NB.out)
                      have MB := Lib.hid NB.out
                      clear NB CXB CYB HLB
                      cases blB with
                      | true =>
                        have HS1 : Hid (Sort.shiftDown ltN jm (Sort.swp d5 j jm) = d3) := Lib.hid (by
                          have h1 := HD5.out
                          have h2 := HBB.out
                          rw [HJJ.out] at h1 h2 ⊢
                          rw [← shiftDown_go h2]
                          exact h1)
                        obtain ⟨xiT, hxiT⟩ : ∃ x, (d5)[j]! = x := ⟨_, rfl⟩
                        obtain ⟨xjT, hxjT⟩ : ∃ x, (d5)[jm]! = x := ⟨_, rfl⟩
                        have HSIT : Hid ((d5)[j]! = xiT) := Lib.hid hxiT
                        have HSJT : Hid ((d5)[jm]! = xjT) := Lib.hid hxjT
                        have HBIT : j < (d5).size := by rw [HN5.out]; omega
                        have HBJT : jm < (d5).size := by rw [HN5.out]; omega
                        clear hxiT hxjT
                        go_upto_region 17 with (fail)
                        refine restu_start 15 [] [g] 18 #[false, false, false, false, false, false, false, false, false, false, false, false, false, false, false, false, false, false] rfl (by kernel_rfl) (by kernel_rfl) ?_
                        intro vT nT
                        have RvT := Lib.hid (RB.out.mod0 nT)
                        have CiT := Lib.hid (RvT.out.cell HBIT HSIT.out)
                        have CjT := Lib.hid (RvT.out.cell HBJT HSJT.out)
                        have NvT := Lib.hid nT
                        clear nT
                        refine restu_got (i := 0) (v := ?v47) rfl (by kernel_rfl) (by kernel_rfl) (by kernel_rfl) (by rfl) (fun _ _ _ h => h) (by rfl) ?y47 ?r47
                        case y47 => (intro w9q hSwq; clear hSwq; go_simp; with_reducible rfl)
                        try simp only [Act.put, List.setIfInBounds_toArray, List.set_cons_zero, List.set_cons_succ]
                        refine restu_got (i := 1) (v := ?v48) rfl (by kernel_rfl) (by kernel_rfl) (by kernel_rfl) (by rfl) (fun _ _ _ h => h) (by rfl) ?y48 ?r48
                        case y48 => (intro w9q hSwq; clear hSwq; go_simp; with_reducible rfl)
                        try simp only [Act.put, List.setIfInBounds_toArray, List.set_cons_zero, List.set_cons_succ]
                        refine restu_got (i := 2) (v := ?v49) rfl (by kernel_rfl) (by kernel_rfl) (by kernel_rfl) (by rfl) (fun _ _ _ h => h) (by rfl) ?y49 ?r49
                        case y49 => (intro w9q hSwq; clear hSwq; go_simp; with_reducible rfl)
                        try simp only [Act.put, List.setIfInBounds_toArray, List.set_cons_zero, List.set_cons_succ]
                        refine restu_got (i := 3) (v := ?v50) rfl (by kernel_rfl) (by kernel_rfl) (by kernel_rfl) (by rfl) (fun _ _ _ h => h) (by rfl) ?y50 ?r50
                        case y50 => (intro w9q hSwq; clear hSwq; go_simp; with_reducible rfl)
                        try simp only [Act.put, List.setIfInBounds_toArray, List.set_cons_zero, List.set_cons_succ]
                        refine restu_got (i := 4) (v := ?v51) rfl (by kernel_rfl) (by kernel_rfl) (by kernel_rfl) (by rfl) (fun _ _ _ h => h) (by rfl) ?y51 ?r51
                        case y51 => (intro w9q hSwq; clear hSwq; go_simp; with_reducible rfl)
                        try simp only [Act.put, List.setIfInBounds_toArray, List.set_cons_zero, List.set_cons_succ]
                        refine restu_got (i := 5) (v := ?v52) rfl (by kernel_rfl) (by kernel_rfl) (by kernel_rfl) (by rfl) (fun _ _ _ h => h) (by rfl) ?y52 ?r52
                        case y52 => (intro w9q hSwq; clear hSwq; go_simp; with_reducible rfl)
                        try simp only [Act.put, List.setIfInBounds_toArray, List.set_cons_zero, List.set_cons_succ]
                        refine restu_got (i := 6) (v := ?v53) rfl (by kernel_rfl) (by kernel_rfl) (by kernel_rfl) (by rfl) (fun _ _ _ h => h) (by rfl) ?y53 ?r53
                        case y53 => (intro w9q hSwq; clear hSwq; go_simp; with_reducible rfl)
                        try simp only [Act.put, List.setIfInBounds_toArray, List.set_cons_zero, List.set_cons_succ]
                        refine restu_got (i := 7) (v := ?v54) rfl (by kernel_rfl) (by kernel_rfl) (by kernel_rfl) (by rfl) (fun _ _ _ h => h) (by rfl) ?y54 ?r54
                        case y54 => (intro w9q hSwq; clear hSwq; go_simp; with_reducible rfl)
                        try simp only [Act.put, List.setIfInBounds_toArray, List.set_cons_zero, List.set_cons_succ]
                        refine restu_got (i := 8) (v := ?v55) rfl (by kernel_rfl) (by kernel_rfl) (by kernel_rfl) (by rfl) (fun _ _ _ h => h) (by rfl) ?y55 ?r55
                        case y55 => (intro w9q hSwq; clear hSwq; go_simp; with_reducible rfl)
                        try simp only [Act.put, List.setIfInBounds_toArray, List.set_cons_zero, List.set_cons_succ]
                        refine restu_early (i := 9) [14, 15, 16, 17] (v := ?v56) rfl (by kernel_rfl) (by kernel_rfl) (by kernel_rfl) (by rfl) (by kernel_rfl) (by rfl) (by kernel_rfl) (fun _ _ _ h => h) (by rfl) ?y56 ?r56
                        case y56 => ((intro w9' hm9'; have hc9' := Mod.cell hm9' CjT.out (by first | exact List.not_mem_nil | assumption | (simp; done) | (simp; omega)); clear hm9'; go_simp; with_reducible rfl))
                        try simp only [Act.put, List.setIfInBounds_toArray, List.set_cons_zero, List.set_cons_succ]
                        refine restu_got (i := 10) (v := ?v57) rfl (by kernel_rfl) (by kernel_rfl) (by kernel_rfl) (by rfl) (fun _ _ _ h => h) (by rfl) ?y57 ?r57
                        case y57 => (intro w9q hSwq; clear hSwq; go_simp; with_reducible rfl)
                        try simp only [Act.put, List.setIfInBounds_toArray, List.set_cons_zero, List.set_cons_succ]
                        refine restu_got (i := 11) (v := ?v58) rfl (by kernel_rfl) (by kernel_rfl) (by kernel_rfl) (by rfl) (fun _ _ _ h => h) (by rfl) ?y58 ?r58
                        case y58 => (intro w9q hSwq; clear hSwq; go_simp; with_reducible rfl)
                        try simp only [Act.put, List.setIfInBounds_toArray, List.set_cons_zero, List.set_cons_succ]
                        refine restu_got (i := 12) (v := ?v59) rfl (by kernel_rfl) (by kernel_rfl) (by kernel_rfl) (by rfl) (fun _ _ _ h => h) (by rfl) ?y59 ?r59
                        case y59 => (intro w9q hSwq; clear hSwq; go_simp; with_reducible rfl)
                        try simp only [Act.put, List.setIfInBounds_toArray, List.set_cons_zero, List.set_cons_succ]
                        refine restu_early (i := 13) [14, 15, 16, 17] (v := ?v60) rfl (by kernel_rfl) (by kernel_rfl) (by kernel_rfl) (by rfl) (by kernel_rfl) (by rfl) (by kernel_rfl) (fun _ _ _ h => h) (by rfl) ?y60 ?r60
                        case y60 => ((intro w9' hm9'; have hc9' := Mod.cell hm9' CiT.out (by first | exact List.not_mem_nil | assumption | (simp; done) | (simp; omega)); clear hm9'; go_simp; with_reducible rfl))
                        try simp only [Act.put, List.setIfInBounds_toArray, List.set_cons_zero, List.set_cons_succ]
                        refine restu_got (i := 14) (v := ?v61) rfl (by kernel_rfl) (by kernel_rfl) (by kernel_rfl) (by rfl) (fun _ _ _ h => h) (by rfl) ?y61 ?r61
                        case y61 => (intro w9q hSwq; clear hSwq; go_simp; with_reducible rfl)
                        try simp only [Act.put, List.setIfInBounds_toArray, List.set_cons_zero, List.set_cons_succ]
                        refine restu_one (i := 15) (by kernel_rfl) rfl (by rfl) ?_
                        have ciT := (RvT.out.at' HBIT).1
                        have fiT := (RvT.out.at' HBIT).2
                        go_wp2_with fail
                        have RaT := Lib.hid (RvT.out.set j xjT)
                        have naT : Mod [g] vT (vT.setCell ⟨g, j, none⟩ (.int .u32 (xjT : Int))) := Mod.setCell _ _ _ (by simp)
                        have NaT := Lib.hid (NvT.out.nil.trans' naT)
                        have RbT := Lib.hid (RvT.out.swp HSIT.out HSJT.out)
                        refine backm_to (K1 := [g]) (by kernel_rfl) naT (fun _ h _ => h) ?_
                        clear naT ciT fiT CiT CjT NvT RvT
                        refine rest_got (i := 16) (v := ?v62) rfl (by kernel_rfl) (by kernel_rfl) (by kernel_rfl) (fun _ _ _ h => h) (by rfl) ?y62 ?r62
                        case y62 => (intro w9q hSwq; clear hSwq; go_simp; with_reducible rfl)
                        try simp only [Act.put, List.setIfInBounds_toArray, List.set_cons_zero, List.set_cons_succ]
                        refine rest_one (i := 17) (by kernel_rfl) rfl (by rfl) ?_
                        have cjT := (RaT.out.at' (i := jm) (by rw [Array.size_setIfInBounds]; exact HBJT)).1
                        have fjT := (RaT.out.at' (i := jm) (by rw [Array.size_setIfInBounds]; exact HBJT)).2
                        go_wp2_with fail
                        have nbT : Mod [g] (vT.setCell ⟨g, j, none⟩ (.int .u32 (xjT : Int))) ((vT.setCell ⟨g, j, none⟩ (.int .u32 (xjT : Int))).setCell ⟨g, jm, none⟩ (.int .u32 (xiT : Int))) := Mod.setCell _ _ _ (by simp)
                        have MT := Lib.hid (NaT.out.trans' nbT)
                        have RT := Lib.hid RbT.out
                        refine back_to (K1 := []) nbT (by simp) ?_
                        clear nbT cjT fjT NaT RaT RbT HSIT HSJT
                        refine rest_done (by kernel_rfl) ?_ _
                        go_wp2
                        go_roundw
                        case rel => exact ⟨jm, Sort.swp d5 j jm, by omega, by first | rfl | (congr 1; omega), RT.out, by rw [size_swp, HN5.out], HS1.out, (HM5.out.trans0 MB.out).trans' MT.out⟩
                        case measure => first | (simp [RowKit.intOf]; done) | (simp [RowKit.intOf]; omega)
                      | false =>
                        have hF : d5 = d3 := by
                          have h1 := HD5.out
                          have h2 := HBB.out
                          rw [HJJ.out] at h1 h2
                          rw [shiftDown_stop h2] at h1
                          exact h1
                        go_wp2
                        go_meet
                        exact ⟨by rw [← hF]; exact RB.out, HM5.out.trans0 MB.out⟩
                    · obtain rfl : j = 0 := by omega
                      have hF : d5 = d3 := HD5.out
                      go_wp2
                      go_meet
                      exact ⟨by rw [← hF]; exact HR5.out, HM5.out⟩
                · have DG2 : decide ((2 : Int) ≤ (i : Int) - (a : Int)) = false := decide_eq_false (by omega)
                  have hF : d2 = d3 := by
                    have := HD3.out
                    unfold pDown at this
                    rw [if_neg h2] at this
                    exact this
                  go_wp2
                  go_meet
                  exact ⟨by rw [← hF]; exact RS.out, Mod.refl _ _⟩
              rename World => w6
              obtain ⟨hr6, hm6⟩ := hcut
              have HR6 := Lib.hid hr6
              have HM6 := Lib.hid (HMS.out.trans' hm6)
              clear hr6 hm6 HMS RS HD3 HN2
              by_cases h2 : 2 ≤ b - i
              · have DG2 : decide ((2 : Int) ≤ (b : Int) - (i : Int)) = true := decide_eq_true (by omega)
                have HS0 : Hid (Sort.shiftUp ltN b (i + 1) d3 = d4) := Lib.hid (by
                  have := HD4.out
                  unfold pUp at this
                  rw [if_pos h2] at this
                  exact this)
                go_wp2
                go_loopw [10] (fun s10 wq => ∃ (j : Nat) (d5 : Array Nat), i + 1 ≤ j ∧ j ≤ b ∧ s10 = .int .i64 (j : Int) ∧ Row wq g cap d5 ∧ d5.size = n ∧ Sort.shiftUp ltN b j d5 = d4 ∧ Mod [g] w6 wq) (fun s10 _ => b - (RowKit.intOf s10).toNat)
                case atStart => exact ⟨i + 1, d3, Nat.le_refl _, by omega, by go_num, HR6.out, HN3.out, HS0.out, Mod.refl _ _⟩
                case round =>
                  rename World => wr7
                  obtain ⟨j, d5, hj, hjb, rfl, hR, hn, hD, hm⟩ := hrel
                  have HR5 := Lib.hid hR
                  have HN5 := Lib.hid hn
                  have HD5 := Lib.hid hD
                  have HM5 := Lib.hid hm
                  clear hR hn hD hm
                  by_cases hj0 : j < b
                  · have DJ : decide (j < b) = true := decide_eq_true hj0
                    have DJ2 : decide ((j : Int) < (b : Int)) = true := decide_eq_true (by omega)
                    obtain ⟨jm, hjm⟩ : ∃ q, j - 1 = q := ⟨_, rfl⟩
                    have ejm : IntKind.i64.wrap ((j : Int) - 1) = (jm : Int) := by rw [show (j : Int) - 1 = (jm : Int) by omega]; exact IntWalk.i64_in _ (by omega)
                    have Bj : (j : Int) < (n : Int) := by omega
                    have Bjm : (jm : Int) < (n : Int) := by omega
                    obtain ⟨xB, hxB⟩ : ∃ q, (d5)[j]! = q := ⟨_, rfl⟩
                    obtain ⟨yB, hyB⟩ : ∃ q, (d5)[jm]! = q := ⟨_, rfl⟩
                    have CXB := Lib.hid (HR5.out.cell (i := j) (by rw [HN5.out]; omega) hxB)
                    have CYB := Lib.hid (HR5.out.cell (i := jm) (by rw [HN5.out]; omega) hyB)
                    obtain ⟨blB, hblB⟩ : ∃ q, ltN xB yB = q := ⟨_, rfl⟩
                    have HLB := Lib.hid (less_any xB yB blB hblB)
                    have HBB : Hid (ltN (d5)[j]! (d5)[jm]! = blB) := Lib.hid (by rw [hxB, hyB]; exact hblB)
                    clear hxB hyB hblB
                    go_upto_region 22 with (fail)
                    refine rest_start [] 11 #[false, false, false, false, false, false, false, false, false, false, false] rfl (by kernel_rfl) (by kernel_rfl) ?_
                    intro uB mB
                    have CXB6 := Lib.hid (mB.cell CXB.out List.not_mem_nil)
                    have CYB6 := Lib.hid (mB.cell CYB.out List.not_mem_nil)
                    have NB := Lib.hid mB
                    have HLB6 := Lib.hid (HLB.out uB)
                    clear mB
                    refine rest_got (i := 0) (v := ?v63) rfl (by kernel_rfl) (by kernel_rfl) (by kernel_rfl) (fun _ _ _ h => h) (by rfl) ?y63 ?r63
                    case y63 => (intro w9q hSwq; clear hSwq; go_simp; with_reducible rfl)
                    try simp only [Act.put, List.setIfInBounds_toArray, List.set_cons_zero, List.set_cons_succ]
                    refine rest_got (i := 1) (v := ?v64) rfl (by kernel_rfl) (by kernel_rfl) (by kernel_rfl) (fun _ _ _ h => h) (by rfl) ?y64 ?r64
                    case y64 => (intro w9q hSwq; clear hSwq; go_simp; with_reducible rfl)
                    try simp only [Act.put, List.setIfInBounds_toArray, List.set_cons_zero, List.set_cons_succ]
                    refine rest_got (i := 2) (v := ?v65) rfl (by kernel_rfl) (by kernel_rfl) (by kernel_rfl) (fun _ _ _ h => h) (by rfl) ?y65 ?r65
                    case y65 => (intro w9q hSwq; clear hSwq; go_simp; with_reducible rfl)
                    try simp only [Act.put, List.setIfInBounds_toArray, List.set_cons_zero, List.set_cons_succ]
                    refine rest_got (i := 3) (v := ?v66) rfl (by kernel_rfl) (by kernel_rfl) (by kernel_rfl) (fun _ _ _ h => h) (by rfl) ?y66 ?r66
                    case y66 => ((intro w9' hm9'; have hc9' := Mod.cell hm9' CXB6.out (by first | exact List.not_mem_nil | assumption | (simp; done) | (simp; omega)); clear hm9'; go_simp; with_reducible rfl))
                    try simp only [Act.put, List.setIfInBounds_toArray, List.set_cons_zero, List.set_cons_succ]
                    refine rest_got (i := 4) (v := ?v67) rfl (by kernel_rfl) (by kernel_rfl) (by kernel_rfl) (fun _ _ _ h => h) (by rfl) ?y67 ?r67
                    case y67 => (intro w9q hSwq; clear hSwq; go_simp; with_reducible rfl)
                    try simp only [Act.put, List.setIfInBounds_toArray, List.set_cons_zero, List.set_cons_succ]
                    refine rest_got (i := 5) (v := ?v68) rfl (by kernel_rfl) (by kernel_rfl) (by kernel_rfl) (fun _ _ _ h => h) (by rfl) ?y68 ?r68
                    case y68 => (intro w9q hSwq; clear hSwq; go_simp; with_reducible rfl)
                    try simp only [Act.put, List.setIfInBounds_toArray, List.set_cons_zero, List.set_cons_succ]
                    refine rest_got (i := 6) (v := ?v69) rfl (by kernel_rfl) (by kernel_rfl) (by kernel_rfl) (fun _ _ _ h => h) (by rfl) ?y69 ?r69
                    case y69 => (intro w9q hSwq; clear hSwq; go_simp; with_reducible rfl)
                    try simp only [Act.put, List.setIfInBounds_toArray, List.set_cons_zero, List.set_cons_succ]
                    refine rest_got (i := 7) (v := ?v70) rfl (by kernel_rfl) (by kernel_rfl) (by kernel_rfl) (fun _ _ _ h => h) (by rfl) ?y70 ?r70
                    case y70 => (intro w9q hSwq; clear hSwq; go_simp; with_reducible rfl)
                    try simp only [Act.put, List.setIfInBounds_toArray, List.set_cons_zero, List.set_cons_succ]
                    refine rest_got (i := 8) (v := ?v71) rfl (by kernel_rfl) (by kernel_rfl) (by kernel_rfl) (fun _ _ _ h => h) (by rfl) ?y71 ?r71
                    case y71 => ((intro w9' hm9'; have hc9' := Mod.cell hm9' CYB6.out (by first | exact List.not_mem_nil | assumption | (simp; done) | (simp; omega)); clear hm9'; go_simp; with_reducible rfl))
                    try simp only [Act.put, List.setIfInBounds_toArray, List.set_cons_zero, List.set_cons_succ]
                    refine rest_one (i := 9) (by kernel_rfl) rfl (by rfl) ?_
                    go_wp2_with fail
                    refine HLB6.out.mono ?_
                    rintro e wB ⟨rfl, rfl⟩
                    go_wp2_with fail
                    refine back_to (K1 := []) (Mod.refl _ _) (by simp) ?_
                    clear HLB6 CXB6 CYB6
                    refine rest_got (i := 10) (v := ?v72) rfl (by kernel_rfl) (by kernel_rfl) (by kernel_rfl) (fun _ _ _ h => h) (by rfl) ?y72 ?r72
                    case y72 => (intro w9q hSwq; clear hSwq; go_simp; with_reducible rfl)
                    try simp only [Act.put, List.setIfInBounds_toArray, List.set_cons_zero, List.set_cons_succ]
                    refine rest_done (by kernel_rfl) ?_ _
                    have RB := Lib.hid (HR5.out.mod0 NB.out)
                    have MB := Lib.hid NB.out
                    clear NB CXB CYB HLB
                    cases blB with
                    | true =>
                      have HS1 : Hid (Sort.shiftUp ltN b (j + 1) (Sort.swp d5 j jm) = d4) := Lib.hid (by
                        have h1 := HD5.out
                        rw [shiftUp_go hj0 (by rw [hjm]; exact HBB.out), hjm] at h1
                        exact h1)
                      obtain ⟨xiT, hxiT⟩ : ∃ x, (d5)[j]! = x := ⟨_, rfl⟩
                      obtain ⟨xjT, hxjT⟩ : ∃ x, (d5)[jm]! = x := ⟨_, rfl⟩
                      have HSIT : Hid ((d5)[j]! = xiT) := Lib.hid hxiT
                      have HSJT : Hid ((d5)[jm]! = xjT) := Lib.hid hxjT
                      have HBIT : j < (d5).size := by rw [HN5.out]; omega
                      have HBJT : jm < (d5).size := by rw [HN5.out]; omega
                      clear hxiT hxjT
                      go_upto_region 23 with (fail)
                      refine restu_start 15 [] [g] 18 #[false, false, false, false, false, false, false, false, false, false, false, false, false, false, false, false, false, false] rfl (by kernel_rfl) (by kernel_rfl) ?_
                      intro vT nT
                      have RvT := Lib.hid (RB.out.mod0 nT)
                      have CiT := Lib.hid (RvT.out.cell HBIT HSIT.out)
                      have CjT := Lib.hid (RvT.out.cell HBJT HSJT.out)
                      have NvT := Lib.hid nT
                      clear nT
                      refine restu_got (i := 0) (v := ?v73) rfl (by kernel_rfl) (by kernel_rfl) (by kernel_rfl) (by rfl) (fun _ _ _ h => h) (by rfl) ?y73 ?r73
                      case y73 => (intro w9q hSwq; clear hSwq; go_simp; with_reducible rfl)
                      try simp only [Act.put, List.setIfInBounds_toArray, List.set_cons_zero, List.set_cons_succ]
                      refine restu_got (i := 1) (v := ?v74) rfl (by kernel_rfl) (by kernel_rfl) (by kernel_rfl) (by rfl) (fun _ _ _ h => h) (by rfl) ?y74 ?r74
                      case y74 => (intro w9q hSwq; clear hSwq; go_simp; with_reducible rfl)
                      try simp only [Act.put, List.setIfInBounds_toArray, List.set_cons_zero, List.set_cons_succ]
                      refine restu_got (i := 2) (v := ?v75) rfl (by kernel_rfl) (by kernel_rfl) (by kernel_rfl) (by rfl) (fun _ _ _ h => h) (by rfl) ?y75 ?r75
                      case y75 => (intro w9q hSwq; clear hSwq; go_simp; with_reducible rfl)
                      try simp only [Act.put, List.setIfInBounds_toArray, List.set_cons_zero, List.set_cons_succ]
                      refine restu_got (i := 3) (v := ?v76) rfl (by kernel_rfl) (by kernel_rfl) (by kernel_rfl) (by rfl) (fun _ _ _ h => h) (by rfl) ?y76 ?r76
                      case y76 => (intro w9q hSwq; clear hSwq; go_simp; with_reducible rfl)
                      try simp only [Act.put, List.setIfInBounds_toArray, List.set_cons_zero, List.set_cons_succ]
                      refine restu_got (i := 4) (v := ?v77) rfl (by kernel_rfl) (by kernel_rfl) (by kernel_rfl) (by rfl) (fun _ _ _ h => h) (by rfl) ?y77 ?r77
                      case y77 => (intro w9q hSwq; clear hSwq; go_simp; with_reducible rfl)
                      try simp only [Act.put, List.setIfInBounds_toArray, List.set_cons_zero, List.set_cons_succ]
                      refine restu_got (i := 5) (v := ?v78) rfl (by kernel_rfl) (by kernel_rfl) (by kernel_rfl) (by rfl) (fun _ _ _ h => h) (by rfl) ?y78 ?r78
                      case y78 => (intro w9q hSwq; clear hSwq; go_simp; with_reducible rfl)
                      try simp only [Act.put, List.setIfInBounds_toArray, List.set_cons_zero, List.set_cons_succ]
                      refine restu_got (i := 6) (v := ?v79) rfl (by kernel_rfl) (by kernel_rfl) (by kernel_rfl) (by rfl) (fun _ _ _ h => h) (by rfl) ?y79 ?r79
                      case y79 => (intro w9q hSwq; clear hSwq; go_simp; with_reducible rfl)
                      try simp only [Act.put, List.setIfInBounds_toArray, List.set_cons_zero, List.set_cons_succ]
                      refine restu_got (i := 7) (v := ?v80) rfl (by kernel_rfl) (by kernel_rfl) (by kernel_rfl) (by rfl) (fun _ _ _ h => h) (by rfl) ?y80 ?r80
                      case y80 => (intro w9q hSwq; clear hSwq; go_simp; with_reducible rfl)
                      try simp only [Act.put, List.setIfInBounds_toArray, List.set_cons_zero, List.set_cons_succ]
                      refine restu_got (i := 8) (v := ?v81) rfl (by kernel_rfl) (by kernel_rfl) (by kernel_rfl) (by rfl) (fun _ _ _ h => h) (by rfl) ?y81 ?r81
                      case y81 => (intro w9q hSwq; clear hSwq; go_simp; with_reducible rfl)
                      try simp only [Act.put, List.setIfInBounds_toArray, List.set_cons_zero, List.set_cons_succ]
                      refine restu_early (i := 9) [14, 15, 16, 17] (v := ?v82) rfl (by kernel_rfl) (by kernel_rfl) (by kernel_rfl) (by rfl) (by kernel_rfl) (by rfl) (by kernel_rfl) (fun _ _ _ h => h) (by rfl) ?y82 ?r82
                      case y82 => ((intro w9' hm9'; have hc9' := Mod.cell hm9' CjT.out (by first | exact List.not_mem_nil | assumption | (simp; done) | (simp; omega)); clear hm9'; go_simp; with_reducible rfl))
                      try simp only [Act.put, List.setIfInBounds_toArray, List.set_cons_zero, List.set_cons_succ]
                      refine restu_got (i := 10) (v := ?v83) rfl (by kernel_rfl) (by kernel_rfl) (by kernel_rfl) (by rfl) (fun _ _ _ h => h) (by rfl) ?y83 ?r83
                      case y83 => (intro w9q hSwq; clear hSwq; go_simp; with_reducible rfl)
                      try simp only [Act.put, List.setIfInBounds_toArray, List.set_cons_zero, List.set_cons_succ]
                      refine restu_got (i := 11) (v := ?v84) rfl (by kernel_rfl) (by kernel_rfl) (by kernel_rfl) (by rfl) (fun _ _ _ h => h) (by rfl) ?y84 ?r84
                      case y84 => (intro w9q hSwq; clear hSwq; go_simp; with_reducible rfl)
                      try simp only [Act.put, List.setIfInBounds_toArray, List.set_cons_zero, List.set_cons_succ]
                      refine restu_got (i := 12) (v := ?v85) rfl (by kernel_rfl) (by kernel_rfl) (by kernel_rfl) (by rfl) (fun _ _ _ h => h) (by rfl) ?y85 ?r85
                      case y85 => (intro w9q hSwq; clear hSwq; go_simp; with_reducible rfl)
                      try simp only [Act.put, List.setIfInBounds_toArray, List.set_cons_zero, List.set_cons_succ]
                      refine restu_early (i := 13) [14, 15, 16, 17] (v := ?v86) rfl (by kernel_rfl) (by kernel_rfl) (by kernel_rfl) (by rfl) (by kernel_rfl) (by rfl) (by kernel_rfl) (fun _ _ _ h => h) (by rfl) ?y86 ?r86
                      case y86 => ((intro w9' hm9'; have hc9' := Mod.cell hm9' CiT.out (by first | exact List.not_mem_nil | assumption | (simp; done) | (simp; omega)); clear hm9'; go_simp; with_reducible rfl))
                      try simp only [Act.put, List.setIfInBounds_toArray, List.set_cons_zero, List.set_cons_succ]
                      refine restu_got (i := 14) (v := ?v87) rfl (by kernel_rfl) (by kernel_rfl) (by kernel_rfl) (by rfl) (fun _ _ _ h => h) (by rfl) ?y87 ?r87
                      case y87 => (intro w9q hSwq; clear hSwq; go_simp; with_reducible rfl)
                      try simp only [Act.put, List.setIfInBounds_toArray, List.set_cons_zero, List.set_cons_succ]
                      refine restu_one (i := 15) (by kernel_rfl) rfl (by rfl) ?_
                      have ciT := (RvT.out.at' HBIT).1
                      have fiT := (RvT.out.at' HBIT).2
                      go_wp2_with fail
                      have RaT := Lib.hid (RvT.out.set j xjT)
                      have naT : Mod [g] vT (vT.setCell ⟨g, j, none⟩ (.int .u32 (xjT : Int))) := Mod.setCell _ _ _ (by simp)
                      have NaT := Lib.hid (NvT.out.nil.trans' naT)
                      have RbT := Lib.hid (RvT.out.swp HSIT.out HSJT.out)
                      refine backm_to (K1 := [g]) (by kernel_rfl) naT (fun _ h _ => h) ?_
                      clear naT ciT fiT CiT CjT NvT RvT
                      refine rest_got (i := 16) (v := ?v88) rfl (by kernel_rfl) (by kernel_rfl) (by kernel_rfl) (fun _ _ _ h => h) (by rfl) ?y88 ?r88
                      case y88 => (intro w9q hSwq; clear hSwq; go_simp; with_reducible rfl)
                      try simp only [Act.put, List.setIfInBounds_toArray, List.set_cons_zero, List.set_cons_succ]
                      refine rest_one (i := 17) (by kernel_rfl) rfl (by rfl) ?_
                      have cjT := (RaT.out.at' (i := jm) (by rw [Array.size_setIfInBounds]; exact HBJT)).1
                      have fjT := (RaT.out.at' (i := jm) (by rw [Array.size_setIfInBounds]; exact HBJT)).2
                      go_wp2_with fail
                      have nbT : Mod [g] (vT.setCell ⟨g, j, none⟩ (.int .u32 (xjT : Int))) ((vT.setCell ⟨g, j, none⟩ (.int .u32 (xjT : Int))).setCell ⟨g, jm, none⟩ (.int .u32 (xiT : Int))) := Mod.setCell _ _ _ (by simp)
                      have MT := Lib.hid (NaT.out.trans' nbT)
                      have RT := Lib.hid RbT.out
                      refine back_to (K1 := []) nbT (by simp) ?_
                      clear nbT cjT fjT NaT RaT RbT HSIT HSJT
                      refine rest_done (by kernel_rfl) ?_ _
                      go_wp2
                      go_roundw
                      case rel => exact ⟨j + 1, Sort.swp d5 j jm, by omega, by omega, by go_num, RT.out, by rw [size_swp, HN5.out], HS1.out, (HM5.out.trans0 MB.out).trans' MT.out⟩
                      case measure => first | (simp [RowKit.intOf]; done) | (simp [RowKit.intOf]; omega)
                    | false =>
                      have hF : d5 = d4 := by
                        have h1 := HD5.out
                        rw [shiftUp_stop (.inr (by rw [hjm]; exact HBB.out))] at h1
                        exact h1
                      have HR7 := Lib.hid (show Row _ g cap d4 by rw [← hF]; exact RB.out)
                      have HM7 := Lib.hid (HM6.out.trans' (HM5.out.trans0 MB.out))
                      go_wp2
                      go_roundw
                      case rel => exact ⟨i, k + 1, s, d4, by omega, by omega, by omega, by first | rfl | trivial, by go_num, HR7.out, HN4.out, HG.out, HM7.out⟩
                      case measure => first | (simp [RowKit.intOf]; done) | (simp [RowKit.intOf]; omega)
                  · have DJ : decide (j < b) = false := decide_eq_false hj0
                    have DJ2 : decide ((j : Int) < (b : Int)) = false := decide_eq_false (by omega)
                    have hF : d5 = d4 := by
                      have h1 := HD5.out
                      rw [shiftUp_stop (.inl hj0)] at h1
                      exact h1
                    have HR7 := Lib.hid (show Row _ g cap d4 by rw [← hF]; exact HR5.out)
                    have HM7 := Lib.hid (HM6.out.trans' (HM5.out))
                    go_wp2
                    go_roundw
                    case rel => exact ⟨i, k + 1, s, d4, by omega, by omega, by omega, by first | rfl | trivial, by go_num, HR7.out, HN4.out, HG.out, HM7.out⟩
                    case measure => first | (simp [RowKit.intOf]; done) | (simp [RowKit.intOf]; omega)
              · have DG2 : decide ((2 : Int) ≤ (b : Int) - (i : Int)) = false := decide_eq_false (by omega)
                have hF : d3 = d4 := by
                  have := HD4.out
                  unfold pUp at this
                  rw [if_neg h2] at this
                  exact this
                have HR7 := Lib.hid (show Row _ g cap d4 by rw [← hF]; exact HR6.out)
                have HM7 := Lib.hid (HM6.out.trans' (Mod.refl _ _))
                go_wp2
                go_roundw
                case rel => exact ⟨i, k + 1, s, d4, by omega, by omega, by omega, by first | rfl | trivial, by go_num, HR7.out, HN4.out, HG.out, HM7.out⟩
                case measure => first | (simp [RowKit.intOf]; done) | (simp [RowKit.intOf]; omega)
    · obtain rfl : s = 0 := by omega
      have DK : decide ((k : Int) < 5) = false := decide_eq_false (by omega)
      have hR : (d1, false) = R0 := HD.out
      subst hR
      go_wp2
      go_ret
      exact ⟨rfl, HR.out, HM.out⟩
end Go.Proofs.Ytgneigdcgfiooaa
/- The pivot at uint32: order2, median, medianAdjacent, choosePivot: which place comes out. -/
namespace Go.Proofs.Ytgneigdcgfiooaa
open Go Go.RowKit Go.Lib

/-- How many swaps were counted. -/
def Cnt1 (w : World) (gs c : Nat) : Prop := w.heap[gs]? = some (.cells #[.int .i64 (c : Int)] 3 (0, 0))
theorem Cnt1.mod {S : List Nat} {w w' : World} {gs c : Nat} (h : Cnt1 w gs c) (hm : Mod S w w') (hn : gs ∉ S) : Cnt1 w' gs c := hm.get h hn
theorem Cnt1.cell {w : World} {gs c : Nat} (h : Cnt1 w gs c) : w.cell? ⟨gs, 0, none⟩ = some (.int .i64 (c : Int)) := cell_of_block h
theorem Cnt1.free {w : World} {gs c : Nat} (h : Cnt1 w gs c) : w.frozen? ⟨gs, 0, none⟩ = false := free_of_block h
theorem Cnt1.set {w : World} {gs c : Nat} (h : Cnt1 w gs c) (x : Nat) : Cnt1 (w.setCell ⟨gs, 0, none⟩ (.int .i64 (x : Int))) gs x := heap_setCell_same h (i := 0) (.int .i64 (x : Int))
set_option maxRecDepth 100000 in
set_option maxHeartbeats 2000000 in
theorem order2_any (g cap n gs c a b : Nat) (d : Array Nat) (w : World) (hr : Row w g cap d) (hn : d.size = n) (hs : Cnt1 w gs c) (hgs : g ≠ gs) (hc : c ≤ 1000) (ha : a < n) (hb : b < n) (hd : n ≤ 1000000) :
    Calls Try.prog 52 #[.slice (some ⟨g, 0, none⟩) n cap, .int .i64 (a : Int), .int .i64 (b : Int), .pointer (some ⟨gs, 0, none⟩)] w fun e w' => ∃ x y c' : Nat, e = .returned (.tuple #[.int .i64 (x : Int), .int .i64 (y : Int)]) ∧ Hid ((x = a ∧ y = b) ∨ (x = b ∧ y = a)) ∧ c' ≤ c + 1 ∧ Cnt1 w' gs c' ∧ Row w' g cap d ∧ Mod [gs] w w' := by
  have HR0 := Lib.hid hr
  have HN0 := Lib.hid hn
  have HS0 := Lib.hid hs
  have Ba : (a : Int) < (n : Int) := by omega
  have Bb : (b : Int) < (n : Int) := by omega
  clear hr hn hs
  go_enter Try.func52, Try.ntmps52
  obtain ⟨xA, hxA⟩ : ∃ q, (d)[b]! = q := ⟨_, rfl⟩
  obtain ⟨yA, hyA⟩ : ∃ q, (d)[a]! = q := ⟨_, rfl⟩
  have CXA := Lib.hid (HR0.out.cell (i := b) (by rw [HN0.out]; omega) hxA)
  have CYA := Lib.hid (HR0.out.cell (i := a) (by rw [HN0.out]; omega) hyA)
  obtain ⟨blA, hblA⟩ : ∃ q, ltN xA yA = q := ⟨_, rfl⟩
  have HLA := Lib.hid (less_any xA yA blA hblA)
  have HBA : Hid (ltN (d)[b]! (d)[a]! = blA) := Lib.hid (by rw [hxA, hyA]; exact hblA)
  clear hxA hyA hblA
  go_upto_region 1 with (fail)
  refine rest_start [] 9 #[false, false, false, false, false, false, false, false, false] rfl (by kernel_rfl) (by kernel_rfl) ?_
  intro uA mA
  have CXA6 := Lib.hid (mA.cell CXA.out List.not_mem_nil)
  have CYA6 := Lib.hid (mA.cell CYA.out List.not_mem_nil)
  have NA := Lib.hid mA
  have HLA6 := Lib.hid (HLA.out uA)
  clear mA
  refine rest_got (i := 0) (v := ?v1) rfl (by kernel_rfl) (by kernel_rfl) (by kernel_rfl) (fun _ _ _ h => h) (by rfl) ?y1 ?r1
  case y1 => (intro w9q hSwq; clear hSwq; go_simp; with_reducible rfl)
  try simp only [Act.put, List.setIfInBounds_toArray, List.set_cons_zero, List.set_cons_succ]
  refine rest_got (i := 1) (v := ?v2) rfl (by kernel_rfl) (by kernel_rfl) (by kernel_rfl) (fun _ _ _ h => h) (by rfl) ?y2 ?r2
  case y2 => (intro w9q hSwq; clear hSwq; go_simp; with_reducible rfl)
  try simp only [Act.put, List.setIfInBounds_toArray, List.set_cons_zero, List.set_cons_succ]
  refine rest_got (i := 2) (v := ?v3) rfl (by kernel_rfl) (by kernel_rfl) (by kernel_rfl) (fun _ _ _ h => h) (by rfl) ?y3 ?r3
  case y3 => (intro w9q hSwq; clear hSwq; go_simp; with_reducible rfl)
  try simp only [Act.put, List.setIfInBounds_toArray, List.set_cons_zero, List.set_cons_succ]
  refine rest_got (i := 3) (v := ?v4) rfl (by kernel_rfl) (by kernel_rfl) (by kernel_rfl) (fun _ _ _ h => h) (by rfl) ?y4 ?r4
  case y4 => ((intro w9' hm9'; have hc9' := Mod.cell hm9' CXA6.out (by first | exact List.not_mem_nil | assumption | (simp; done) | (simp; omega)); clear hm9'; go_simp; with_reducible rfl))
  try simp only [Act.put, List.setIfInBounds_toArray, List.set_cons_zero, List.set_cons_succ]
  refine rest_got (i := 4) (v := ?v5) rfl (by kernel_rfl) (by kernel_rfl) (by kernel_rfl) (fun _ _ _ h => h) (by rfl) ?y5 ?r5
  case y5 => (intro w9q hSwq; clear hSwq; go_simp; with_reducible rfl)
  try simp only [Act.put, List.setIfInBounds_toArray, List.set_cons_zero, List.set_cons_succ]
  refine rest_got (i := 5) (v := ?v6) rfl (by kernel_rfl) (by kernel_rfl) (by kernel_rfl) (fun _ _ _ h => h) (by rfl) ?y6 ?r6
  case y6 => (intro w9q hSwq; clear hSwq; go_simp; with_reducible rfl)
  try simp only [Act.put, List.setIfInBounds_toArray, List.set_cons_zero, List.set_cons_succ]
  refine rest_got (i := 6) (v := ?v7) rfl (by kernel_rfl) (by kernel_rfl) (by kernel_rfl) (fun _ _ _ h => h) (by rfl) ?y7 ?r7
  case y7 => (intro w9q hSwq; clear hSwq; go_simp; with_reducible rfl)
  try simp only [Act.put, List.setIfInBounds_toArray, List.set_cons_zero, List.set_cons_succ]
  refine rest_got (i := 7) (v := ?v8) rfl (by kernel_rfl) (by kernel_rfl) (by kernel_rfl) (fun _ _ _ h => h) (by rfl) ?y8 ?r8
  case y8 => ((intro w9' hm9'; have hc9' := Mod.cell hm9' CYA6.out (by first | exact List.not_mem_nil | assumption | (simp; done) | (simp; omega)); clear hm9'; go_simp; with_reducible rfl))
  try simp only [Act.put, List.setIfInBounds_toArray, List.set_cons_zero, List.set_cons_succ]
  refine rest_one (i := 8) (by kernel_rfl) rfl (by rfl) ?_
  go_wp2_with fail
  refine HLA6.out.mono ?_
  rintro e wA ⟨rfl, rfl⟩
  go_wp2_with fail
  refine back_to (K1 := []) (Mod.refl _ _) (by simp) ?_
  clear HLA6 CXA6 CYA6
  refine rest_done (by kernel_rfl) ?_ _
  have RA := Lib.hid (HR0.out.mod0 NA.out)
  have MA := Lib.hid NA.out
  clear NA CXA CYA HLA
  have HS1 := Lib.hid (HS0.out.mod MA.out List.not_mem_nil)
  cases blA with
  | true =>
    have c0 := HS1.out.cell
    have f0 := HS1.out.free
    obtain ⟨c1, hc1⟩ : ∃ q, c + 1 = q := ⟨_, rfl⟩
    have ec : (c : Int) + 1 = (c1 : Int) := by omega
    go_wp2
    go_ret2
    refine ⟨b, a, c1, rfl, Lib.hid (.inr ⟨rfl, rfl⟩), by omega, HS1.out.set c1, RA.out.mod (S := [gs]) (Mod.setCell _ _ _ (by simp)) (by simp; exact hgs), MA.out.nil.trans' (Mod.setCell _ _ _ (by simp))⟩
  | false =>
    go_wp2
    go_ret2
    exact ⟨a, b, c, rfl, Lib.hid (.inl ⟨rfl, rfl⟩), Nat.le_succ _, HS1.out, RA.out, MA.out.nil⟩
set_option maxRecDepth 100000 in
set_option maxHeartbeats 2000000 in
theorem median_any (g cap n gs c0 a b c : Nat) (d : Array Nat) (w : World) (hr : Row w g cap d) (hn : d.size = n) (hs : Cnt1 w gs c0) (hgs : g ≠ gs) (hc0 : c0 ≤ 900) (ha : a < n) (hb : b < n) (hc : c < n) (hd : n ≤ 1000000) :
    Calls Try.prog 50 #[.slice (some ⟨g, 0, none⟩) n cap, .int .i64 (a : Int), .int .i64 (b : Int), .int .i64 (c : Int), .pointer (some ⟨gs, 0, none⟩)] w fun e w' => ∃ x c' : Nat, e = .returned (.int .i64 (x : Int)) ∧ Hid (x = a ∨ x = b ∨ x = c) ∧ c' ≤ c0 + 3 ∧ Cnt1 w' gs c' ∧ Row w' g cap d ∧ Mod [gs] w w' := by
  have HN0 := Lib.hid hn
  have H1 := Lib.hid (order2_any g cap n gs c0 a b d w hr hn hs hgs (by omega) ha hb hd)
  clear hr hn hs
  go_enter Try.func50, Try.ntmps50
  go_wp2_with fail
  refine H1.out.mono ?_
  rintro e w1 ⟨a1, b1, c1, rfl, h1, hc1, hs1, hr1, m1⟩
  have M1 := Lib.hid m1
  have H2 := Lib.hid (order2_any g cap n gs c1 b1 c d w1 hr1 HN0.out hs1 hgs (by omega) (by rcases h1.out with h | h <;> omega) hc hd)
  clear hs1 hr1 m1 H1
  go_wp2_with fail
  refine H2.out.mono ?_
  rintro e w2 ⟨b2, k2, c2, rfl, h2, hc2, hs2, hr2, m2⟩
  have M2 := Lib.hid (M1.out.trans' m2)
  have H3 := Lib.hid (order2_any g cap n gs c2 a1 b2 d w2 hr2 HN0.out hs2 hgs (by omega) (by rcases h1.out with h | h <;> omega) (by rcases h1.out with h | h <;> rcases h2.out with h' | h' <;> omega) hd)
  clear hs2 hr2 m2 H2
  go_wp2_with fail
  refine H3.out.mono ?_
  rintro e w3 ⟨a3, b3, c3, rfl, h3, hc3, hs3, hr3, m3⟩
  have M3 := Lib.hid (M2.out.trans' m3)
  have HS3 := Lib.hid hs3
  have HR3 := Lib.hid hr3
  clear hs3 hr3 m3 H3
  go_wp2
  go_ret
  refine ⟨b3, c3, rfl, Lib.hid ?_, by omega, HS3.out, HR3.out, M3.out⟩
  rcases h1.out with h | h <;> rcases h2.out with h' | h' <;> rcases h3.out with h'' | h'' <;> omega
set_option maxRecDepth 100000 in
set_option maxHeartbeats 2000000 in
theorem adjacent_any (g cap n gs c0 a : Nat) (d : Array Nat) (w : World) (hr : Row w g cap d) (hn : d.size = n) (hs : Cnt1 w gs c0) (hgs : g ≠ gs) (hc0 : c0 ≤ 900) (ha : 0 < a) (hb : a + 1 < n) (hd : n ≤ 1000000) :
    Calls Try.prog 49 #[.slice (some ⟨g, 0, none⟩) n cap, .int .i64 (a : Int), .pointer (some ⟨gs, 0, none⟩)] w fun e w' => ∃ x c' : Nat, e = .returned (.int .i64 (x : Int)) ∧ Hid (a ≤ x + 1 ∧ x ≤ a + 1) ∧ c' ≤ c0 + 3 ∧ Cnt1 w' gs c' ∧ Row w' g cap d ∧ Mod [gs] w w' := by
  obtain ⟨am, ham⟩ : ∃ q, a - 1 = q := ⟨_, rfl⟩
  obtain ⟨ap, hap⟩ : ∃ q, a + 1 = q := ⟨_, rfl⟩
  have eam : (a : Int) - 1 = (am : Int) := by omega
  have eap : (a : Int) + 1 = (ap : Int) := by omega
  have H1 := Lib.hid (median_any g cap n gs c0 am a ap d w hr hn hs hgs hc0 (by omega) (by omega) (by omega) hd)
  clear hr hn hs
  go_enter Try.func49, Try.ntmps49
  go_wp2_with fail
  refine H1.out.mono ?_
  rintro e w1 ⟨x, c1, rfl, h1, hc1, hs1, hr1, m1⟩
  have HS1 := Lib.hid hs1
  have HR1 := Lib.hid hr1
  have M1 := Lib.hid m1
  clear hs1 hr1 m1 H1
  go_wp2
  go_ret
  refine ⟨x, c1, rfl, Lib.hid ?_, hc1, HS1.out, HR1.out, M1.out⟩
  rcases h1.out with h | h | h <;> omega
set_option maxRecDepth 100000 in
set_option maxHeartbeats 2000000 in
theorem choose_any (g cap n a b : Nat) (d : Array Nat) (w : World) (hr : Row w g cap d) (hn : d.size = n) (hab : a < b) (hb : b ≤ n) (hd : n ≤ 1000000) :
    Calls Try.prog 38 #[.slice (some ⟨g, 0, none⟩) n cap, .int .i64 (a : Int), .int .i64 (b : Int)] w fun e w' => ∃ p h : Nat, e = .returned (.tuple #[.int .i64 (p : Int), .int .i64 (h : Int)]) ∧ a ≤ p ∧ p < b ∧ h ≤ 2 ∧ Row w' g cap d ∧ Mod [] w w' := by
  have HR0 := Lib.hid hr
  have HN0 := Lib.hid hn
  have hg := hr.lt
  obtain ⟨w1, hw1, hh1⟩ : ∃ w1, w.alloc (.cells #[.int .i64 0] 3) = w1 ∧ w1.heap[w.heap.size]? = some (.cells #[.int .i64 0] 3 (0, 0)) := ⟨_, rfl, heap_alloc_new _ _⟩
  have m1 : Mod [] w w1 := hw1 ▸ Mod.alloc _ _ _
  obtain ⟨gs, hgs⟩ : ∃ q, w.heap.size = q := ⟨_, rfl⟩
  rw [hgs] at hh1
  have HS1 : Hid (Cnt1 w1 gs 0) := Lib.hid hh1
  have HGS := Lib.hid hgs
  have hne : g ≠ gs := by omega
  have HM1 := Lib.hid m1
  have HR1 := Lib.hid (hr.mod0 m1)
  obtain ⟨l, hl⟩ : ∃ q, b - a = q := ⟨_, rfl⟩
  have el : (b : Int) - (a : Int) = (l : Int) := by omega
  obtain ⟨q, hq⟩ : ∃ q, l / 4 = q := ⟨_, rfl⟩
  have eq4 : Int.tdiv (l : Int) 4 = (q : Int) := by subst hq; rfl
  have HADJ : Hid (∀ (v : World) (c0 x : Nat), Row v g cap d → Cnt1 v gs c0 → c0 ≤ 900 → 0 < x → x + 1 < n → _) := Lib.hid fun v c0 x h1 h2 h3 h4 h5 => adjacent_any g cap n gs c0 x d v h1 hn h2 hne h3 h4 h5 hd
  have HMED : Hid (∀ (v : World) (c0 x y z : Nat), Row v g cap d → Cnt1 v gs c0 → c0 ≤ 900 → x < n → y < n → z < n → _) := Lib.hid fun v c0 x y z h1 h2 h3 h4 h5 h6 => median_any g cap n gs c0 x y z d v h1 hn h2 hne h3 h4 h5 h6 hd
  obtain ⟨i, hi⟩ : ∃ i, a + q = i := ⟨_, rfl⟩
  obtain ⟨j, hj⟩ : ∃ j, a + q * 2 = j := ⟨_, rfl⟩
  obtain ⟨k, hk⟩ : ∃ k, a + q * 3 = k := ⟨_, rfl⟩
  have ei : (a : Int) + (q : Int) = (i : Int) := by omega
  have ej : (a : Int) + (q : Int) * 2 = (j : Int) := by omega
  have ek : (a : Int) + (q : Int) * 3 = (k : Int) := by omega
  clear hr hn m1 hh1 HR0
  go_enter Try.func38, Try.ntmps38
  have HRS : Hid (Row w1 g cap d ∧ Cnt1 w1 gs 0) := Lib.hid ⟨HR1.out, HS1.out⟩
  have FIN : Hid (∀ (v : World) (p c : Nat), Row v g cap d → Cnt1 v gs c → Mod [gs] w1 v → a ≤ p → p < b → Row v g cap d ∧ Mod [] w v) := Lib.hid fun v p c h1 _ h3 _ _ => ⟨h1, HM1.out.trans h3 (fun i hi hl => by rw [List.mem_singleton] at hi; have := HGS.out; omega)⟩
  by_cases h8 : 8 ≤ l
  · have DG8 : decide ((8 : Int) ≤ (l : Int)) = true := decide_eq_true (by omega)
    by_cases h50 : 50 ≤ l
    · have DG50 : decide ((50 : Int) ≤ (l : Int)) = true := decide_eq_true (by omega)
      have H1 := Lib.hid (HADJ.out w1 0 i HR1.out HS1.out (by omega) (by omega) (by omega))
      go_wp2_with fail
      refine H1.out.mono ?_
      rintro e w2 ⟨x2, c2, rfl, h2, hc2, hs2, hr2, m2⟩
      have M2 := Lib.hid m2
      have H2 := Lib.hid (HADJ.out w2 c2 j hr2 hs2 (by omega) (by omega) (by omega))
      clear hs2 hr2 m2 H1
      go_wp2_with fail
      refine H2.out.mono ?_
      rintro e w3 ⟨x3, c3, rfl, h3, hc3, hs3, hr3, m3⟩
      have M3 := Lib.hid (M2.out.trans' m3)
      have H3 := Lib.hid (HADJ.out w3 c3 k hr3 hs3 (by omega) (by omega) (by omega))
      clear hs3 hr3 m3 H2
      go_wp2_with fail
      refine H3.out.mono ?_
      rintro e w4 ⟨x4, c4, rfl, h4, hc4, hs4, hr4, m4⟩
      have M4 := Lib.hid (M3.out.trans' m4)
      have H4 := Lib.hid (HMED.out w4 c4 x2 x3 x4 hr4 hs4 (by omega) (by have := h2.out; omega) (by have := h3.out; omega) (by have := h4.out; omega))
      clear hs4 hr4 m4 H3
      go_wp2_with fail
      refine H4.out.mono ?_
      rintro e w5 ⟨p, c5, rfl, h5, hc5, hs5, hr5, m5⟩
      have hp : a ≤ p ∧ p < b := by
        have a2 := h2.out
        have a3 := h3.out
        have a4 := h4.out
        rcases h5.out with h | h | h <;> omega
      have M5 := Lib.hid (M4.out.trans' m5)
      have HE := Lib.hid (FIN.out w5 p c5 hr5 hs5 M5.out hp.1 hp.2)
      have cc := hs5.cell
      clear hs5 hr5 m5 H4 h2 h3 h4 h5 M2 M3 M4 M5
      obtain ⟨z0, hz0⟩ : ∃ q, ((c5 : Int) == 0) = q := ⟨_, rfl⟩
      obtain ⟨z12, hz12⟩ : ∃ q, ((c5 : Int) == 12) = q := ⟨_, rfl⟩
      cases z0 with
      | true =>
        go_wp2
        go_ret2
        exact ⟨p, 1, rfl, hp.1, hp.2, by omega, HE.out.1, HE.out.2⟩
      | false =>
        cases z12 with
        | true =>
          go_wp2
          go_ret2
          exact ⟨p, 2, rfl, hp.1, hp.2, by omega, HE.out.1, HE.out.2⟩
        | false =>
          go_wp2
          go_ret2
          exact ⟨p, 0, rfl, hp.1, hp.2, by omega, HE.out.1, HE.out.2⟩
    · have DG50 : decide ((50 : Int) ≤ (l : Int)) = false := decide_eq_false (by omega)
      have H4 := Lib.hid (HMED.out w1 0 i j k HR1.out HS1.out (by omega) (by omega) (by omega) (by omega))
      go_wp2_with fail
      refine H4.out.mono ?_
      rintro e w5 ⟨p, c5, rfl, h5, hc5, hs5, hr5, m5⟩
      have hp : a ≤ p ∧ p < b := by
        rcases h5.out with h | h | h <;> omega
      have HE := Lib.hid (FIN.out w5 p c5 hr5 hs5 m5 hp.1 hp.2)
      have cc := hs5.cell
      clear hs5 hr5 m5 H4 h5
      obtain ⟨z0, hz0⟩ : ∃ q, ((c5 : Int) == 0) = q := ⟨_, rfl⟩
      obtain ⟨z12, hz12⟩ : ∃ q, ((c5 : Int) == 12) = q := ⟨_, rfl⟩
      cases z0 with
      | true =>
        go_wp2
        go_ret2
        exact ⟨p, 1, rfl, hp.1, hp.2, by omega, HE.out.1, HE.out.2⟩
      | false =>
        cases z12 with
        | true =>
          go_wp2
          go_ret2
          exact ⟨p, 2, rfl, hp.1, hp.2, by omega, HE.out.1, HE.out.2⟩
        | false =>
          go_wp2
          go_ret2
          exact ⟨p, 0, rfl, hp.1, hp.2, by omega, HE.out.1, HE.out.2⟩
  · have DG8 : decide ((8 : Int) ≤ (l : Int)) = false := decide_eq_false (by omega)
    have cc := HS1.out.cell
    have hp : a ≤ j ∧ j < b := by omega
    have HE := Lib.hid (FIN.out w1 j 0 HR1.out HS1.out (Mod.refl _ _) hp.1 hp.2)
    go_wp2
    go_ret2
    exact ⟨j, 1, rfl, hp.1, hp.2, by omega, HE.out.1, HE.out.2⟩
end Go.Proofs.Ytgneigdcgfiooaa
/- The library's contracts at this seat's program, as the kit's lay-shelf.mjs and lay-plain.mjs print them (math/bits). -/
namespace Go.Proofs
open Go.Shelf
def Try.lays128_ren : Go.Shelf.Ren := ⟨fun | 128 => 44 | n => n, fun | 51 => 23 | 3 => 3 | 4 => 4 | 46 => 81 | 5 => 5 | 9 => 9 | n => n, fun | n => n⟩
theorem Try.lays128 : Go.Proofs.Lays.n128 Try.prog Try.lays128_ren := {
  mixed := by kernel_rfl
  f128 := Try.func44.trans (congrArg some (by kernel_rfl))
  t3 := Try.underlying3
  a3 := Try.isAgg3
  z3 := Try.sizeOf3
  v3 := Try.zeroValue3
  t4 := Try.underlying4
  a4 := Try.isAgg4
  z4 := Try.sizeOf4
  v4 := Try.zeroValue4
  t5 := Try.underlying5
  a5 := Try.isAgg5
  z5 := Try.sizeOf5
  v5 := Try.zeroValue5
  t9 := Try.underlying9
  a9 := Try.isAgg9
  z9 := Try.sizeOf9
  v9 := Try.zeroValue9
  t46 := Try.underlying81
  a46 := Try.isAgg81
  z46 := Try.sizeOf81
  v46 := Try.zeroValue81
  t51 := Try.underlying23
  a51 := Try.isAgg23
  z51 := Try.sizeOf23
  v51 := Try.zeroValue23 }
/-- bits.Len32: "Len32 returns the minimum number of bits required to represent x; the result is 0 for x == 0.": IT RETURNS 'Lib.bitLen x'; the world is as it was. ('h0', 'h1': x is a uint32.) (LAID: no walk: one application.) -/
theorem Try.bits_Len32 (x : Int) (w : World) (h0 : 0 ≤ x) (h1 : x ≤ 4294967295) :
    Calls Try.prog 44 #[.int .u32 x] w fun e w' => e = .returned (.int .i64 (Lib.bitLen x.toNat)) ∧ w' = w := Any.bits_Len32 Try.lays128 x w h0 h1
def Try.lays125_ren : Go.Shelf.Ren := ⟨fun | 125 => 33 | 128 => 44 | 129 => 45 | n => n, fun | 46 => 81 | 3 => 3 | 51 => 23 | 53 => 60 | 4 => 4 | 5 => 5 | 9 => 9 | n => n, fun | n => n⟩
theorem Try.lays125 : Go.Proofs.Lays.n125 Try.prog Try.lays125_ren := {
  mixed := by kernel_rfl
  f125 := Try.func33.trans (congrArg some (by kernel_rfl))
  f128 := Try.func44.trans (congrArg some (by kernel_rfl))
  f129 := Try.func45.trans (congrArg some (by kernel_rfl))
  t3 := Try.underlying3
  a3 := Try.isAgg3
  z3 := Try.sizeOf3
  v3 := Try.zeroValue3
  t4 := Try.underlying4
  a4 := Try.isAgg4
  z4 := Try.sizeOf4
  v4 := Try.zeroValue4
  t5 := Try.underlying5
  a5 := Try.isAgg5
  z5 := Try.sizeOf5
  v5 := Try.zeroValue5
  t9 := Try.underlying9
  a9 := Try.isAgg9
  z9 := Try.sizeOf9
  v9 := Try.zeroValue9
  t46 := Try.underlying81
  a46 := Try.isAgg81
  z46 := Try.sizeOf81
  v46 := Try.zeroValue81
  t51 := Try.underlying23
  a51 := Try.isAgg23
  z51 := Try.sizeOf23
  v51 := Try.zeroValue23
  t53 := Try.underlying60
  a53 := Try.isAgg60
  z53 := Try.sizeOf60
  v53 := Try.zeroValue60 }
/-- bits.Len: "Len returns the minimum number of bits required to represent x; the result is 0 for x == 0.": IT RETURNS 'Lib.bitLen x'; the world is as it was. (A uint has 64 bits in the model.) ITS CALLEE bits.Len64 IS MET BY ITS OWN CONTRACT OFF THE SHELF (lay that first). (LAID: no walk: one application.) -/
theorem Try.bits_Len (x : Int) (w : World) (h0 : 0 ≤ x) (h1 : x ≤ 18446744073709551615) :
    Calls Try.prog 33 #[.int .u64 x] w fun e w' => e = .returned (.int .i64 (Lib.bitLen x.toNat)) ∧ w' = w := Any.bits_Len Try.lays125 x w h0 h1
def Try.lays129_ren : Go.Shelf.Ren := ⟨fun | 129 => 45 | n => n, fun | 53 => 60 | 3 => 3 | 4 => 4 | 46 => 81 | 5 => 5 | 9 => 9 | n => n, fun | n => n⟩
theorem Try.lays129 : Go.Proofs.Lays.n129 Try.prog Try.lays129_ren := {
  mixed := by kernel_rfl
  f129 := Try.func45.trans (congrArg some (by kernel_rfl))
  t3 := Try.underlying3
  a3 := Try.isAgg3
  z3 := Try.sizeOf3
  v3 := Try.zeroValue3
  t4 := Try.underlying4
  a4 := Try.isAgg4
  z4 := Try.sizeOf4
  v4 := Try.zeroValue4
  t5 := Try.underlying5
  a5 := Try.isAgg5
  z5 := Try.sizeOf5
  v5 := Try.zeroValue5
  t9 := Try.underlying9
  a9 := Try.isAgg9
  z9 := Try.sizeOf9
  v9 := Try.zeroValue9
  t46 := Try.underlying81
  a46 := Try.isAgg81
  z46 := Try.sizeOf81
  v46 := Try.zeroValue81
  t53 := Try.underlying60
  a53 := Try.isAgg60
  z53 := Try.sizeOf60
  v53 := Try.zeroValue60 }
/-- bits.Len64: "Len64 returns the minimum number of bits required to represent x; the result is 0 for x == 0.": IT RETURNS 'Lib.bitLen x'; the world is as it was. ('h0', 'h1': x is a uint64.) (LAID: no walk: one application.) -/
theorem Try.bits_Len64 (x : Int) (w : World) (h0 : 0 ≤ x) (h1 : x ≤ 18446744073709551615) :
    Calls Try.prog 45 #[.int .u64 x] w fun e w' => e = .returned (.int .i64 (Lib.bitLen x.toNat)) ∧ w' = w := Any.bits_Len64 Try.lays129 x w h0 h1
end Go.Proofs
