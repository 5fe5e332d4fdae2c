/- Texts put together (3 of 9): Sort3, Sort4. -/
import Derived.Test.YtgneigdcgfiooaaZ2
import Derived.Handy
/- siftDownOrdered, heapSortOrdered at uint32. -/
namespace Go.Proofs.Ytgneigdcgfiooaa
open Go Go.RowKit Go.Lib

/-- What the child's step leaves. -/
def siftK (hi first root k : Nat) (d : Array Nat) : Array Nat := if ltN d[first + root]! d[first + k]! then Sort.siftDown ltN hi first k (Sort.swp d (first + root) (first + k)) else d
theorem sift_end {hi first root : Nat} {d : Array Nat} (h : hi ≤ 2 * root + 1) : Sort.siftDown ltN hi first root d = d := by
  rw [Sort.siftDown, dif_pos h]
theorem sift_right {hi first root : Nat} {d : Array Nat} (h : 2 * root + 2 < hi) (hl : ltN d[first + (2 * root + 1)]! d[first + (2 * root + 1) + 1]! = true) : Sort.siftDown ltN hi first root d = siftK hi first root (2 * root + 2) d := by
  rw [Sort.siftDown, dif_neg (by omega), if_pos (by simp [hl]; omega), dif_pos h]
  unfold siftK
  cases ltN d[first + root]! d[first + (2 * root + 2)]! <;> simp
theorem sift_left {hi first root : Nat} {d : Array Nat} (h0 : 2 * root + 1 < hi) (h : ¬ 2 * root + 2 < hi ∨ ltN d[first + (2 * root + 1)]! d[first + (2 * root + 1) + 1]! = false) : Sort.siftDown ltN hi first root d = siftK hi first root (2 * root + 1) d := by
  rw [Sort.siftDown, dif_neg (by omega), if_neg (by
    rcases h with h | h
    · simp; omega
    · simp [h])]
  unfold siftK
  cases ltN d[first + root]! d[first + (2 * root + 1)]! <;> simp
set_option maxRecDepth 100000 in
set_option maxHeartbeats 16000000 in
theorem sift_any (g cap n lo hi first : Nat) (d : Array Nat) (w : World) (hr : Row w g cap d) (hn : d.size = n) (hlo : lo ≤ 1000000) (hf : first + hi ≤ n) (hd : n ≤ 1000000) :
    Calls Try.prog 46 #[.slice (some ⟨g, 0, none⟩) n cap, .int .i64 (lo : Int), .int .i64 (hi : Int), .int .i64 (first : Int)] w (SortR w g cap (Sort.siftDown ltN hi first lo d)) := by
  have HR0 := Lib.hid hr
  obtain ⟨D, hD⟩ : ∃ x, Sort.siftDown ltN hi first lo d = x := ⟨_, rfl⟩
  have HD0 := Lib.hid hD
  have HN0 := Lib.hid hn
  rw [hD]
  unfold SortR
  clear hr hD hn
  go_enter Try.func46, Try.ntmps46
  go_wp2
  go_loopw [8, 9] (fun s8 _ wr => ∃ (root : Nat) (d1 : Array Nat), root ≤ 1000000 ∧ s8 = .int .i64 (root : Int) ∧ Row wr g cap d1 ∧ d1.size = n ∧ Sort.siftDown ltN hi first root d1 = D ∧ Mod [g] w wr) (fun s8 _ _ => hi - (RowKit.intOf s8).toNat)
  case atStart => exact ⟨lo, d, hlo, rfl, HR0.out, HN0.out, HD0.out, Mod.refl _ _⟩
  case round =>
    obtain ⟨root, d1, hro, rfl, hR, hn, hD, hm⟩ := hrel
    have HR := Lib.hid hR
    have HN := Lib.hid hn
    have HD := Lib.hid hD
    have HM := Lib.hid hm
    clear hR hn hD hm
    obtain ⟨c, hc⟩ : ∃ c, 2 * root + 1 = c := ⟨_, rfl⟩
    have e0 : 2 * (root : Int) + 1 = (c : Int) := by omega
    by_cases hch : c < hi
    · have DG0 : decide (hi ≤ c) = false := decide_eq_false (by omega)
      obtain ⟨fr, hfr⟩ : ∃ x, first + root = x := ⟨_, rfl⟩
      obtain ⟨fc, hfc⟩ : ∃ x, first + c = x := ⟨_, rfl⟩
      obtain ⟨c1, hc1⟩ : ∃ x, c + 1 = x := ⟨_, rfl⟩
      obtain ⟨fc1, hfc1⟩ : ∃ x, fc + 1 = x := ⟨_, rfl⟩
      have efr : IntKind.i64.wrap ((first : Int) + (root : Int)) = (fr : Int) := by rw [show (first : Int) + (root : Int) = (fr : Int) by omega]; exact IntWalk.i64_in _ (by omega)
      have efc : IntKind.i64.wrap ((first : Int) + (c : Int)) = (fc : Int) := by rw [show (first : Int) + (c : Int) = (fc : Int) by omega]; exact IntWalk.i64_in _ (by omega)
      have efc1 : IntKind.i64.wrap ((fc : Int) + (1 : Int)) = (fc1 : Int) := by rw [show (fc : Int) + (1 : Int) = (fc1 : Int) by omega]; exact IntWalk.i64_in _ (by omega)
      have ewc1 : IntKind.i64.wrap (c1 : Int) = (c1 : Int) := IntWalk.i64_in _ (by omega)
      have ec1 : (c : Int) + 1 = (c1 : Int) := by omega
      have Bfr : (fr : Int) < (n : Int) := by omega
      have Bfc : (fc : Int) < (n : Int) := by omega
      by_cases hc2 : c1 < hi
      · have DG1 : decide (c1 < hi) = true := decide_eq_true hc2
        have DG2 : decide ((c1 : Int) < (hi : Int)) = true := decide_eq_true (by omega)
        have Bfc1 : (fc1 : Int) < (n : Int) := by omega
        obtain ⟨xA, hxA⟩ : ∃ q, (d1)[fc]! = q := ⟨_, rfl⟩
        obtain ⟨yA, hyA⟩ : ∃ q, (d1)[fc1]! = q := ⟨_, rfl⟩
        have CXA := Lib.hid (HR.out.cell (i := fc) (by rw [HN.out]; omega) hxA)
        have CYA := Lib.hid (HR.out.cell (i := fc1) (by rw [HN.out]; omega) hyA)
        obtain ⟨blA, hblA⟩ : ∃ q, ltN xA yA = q := ⟨_, rfl⟩
        have HLA := Lib.hid (less_any xA yA blA hblA)
        have HBA : Hid (ltN (d1)[fc]! (d1)[fc1]! = blA) := Lib.hid (by rw [hxA, hyA]; exact hblA)
        clear hxA hyA hblA
        go_upto_region 3 with (fail)
        refine rest_start [] 20 #[false, false, false, false, false, false, false, false, false, false, false, false, false, false, false, false, false, false, false, false] rfl (by kernel_rfl) (by kernel_rfl) ?_
        intro uA mA
        have CXA6 := Lib.hid (mA.cell CXA.out List.not_mem_nil)
        have CYA6 := Lib.hid (mA.cell CYA.out List.not_mem_nil)
        have NA := Lib.hid mA
        have HLA6 := Lib.hid (HLA.out uA)
        clear mA
        refine rest_got (i := 0) (v := ?v1) rfl (by kernel_rfl) (by kernel_rfl) (by kernel_rfl) (fun _ _ _ h => h) (by rfl) ?y1 ?r1
        case y1 => (intro w9q hSwq; clear hSwq; go_simp; with_reducible rfl)
        try simp only [Act.put, List.setIfInBounds_toArray, List.set_cons_zero, List.set_cons_succ]
        refine rest_got (i := 1) (v := ?v2) rfl (by kernel_rfl) (by kernel_rfl) (by kernel_rfl) (fun _ _ _ h => h) (by rfl) ?y2 ?r2
        case y2 => (intro w9q hSwq; clear hSwq; go_simp; with_reducible rfl)
        try simp only [Act.put, List.setIfInBounds_toArray, List.set_cons_zero, List.set_cons_succ]
        refine rest_got (i := 2) (v := ?v3) rfl (by kernel_rfl) (by kernel_rfl) (by kernel_rfl) (fun _ _ _ h => h) (by rfl) ?y3 ?r3
        case y3 => (intro w9q hSwq; clear hSwq; go_simp; with_reducible rfl)
        try simp only [Act.put, List.setIfInBounds_toArray, List.set_cons_zero, List.set_cons_succ]
        refine rest_got (i := 3) (v := ?v4) rfl (by kernel_rfl) (by kernel_rfl) (by kernel_rfl) (fun _ _ _ h => h) (by rfl) ?y4 ?r4
        case y4 => (intro w9q hSwq; clear hSwq; go_simp; with_reducible rfl)
        try simp only [Act.put, List.setIfInBounds_toArray, List.set_cons_zero, List.set_cons_succ]
        refine rest_got (i := 4) (v := ?v5) rfl (by kernel_rfl) (by kernel_rfl) (by kernel_rfl) (fun _ _ _ h => h) (by rfl) ?y5 ?r5
        case y5 => (intro w9q hSwq; clear hSwq; go_simp; with_reducible rfl)
        try simp only [Act.put, List.setIfInBounds_toArray, List.set_cons_zero, List.set_cons_succ]
        refine rest_got (i := 5) (v := ?v6) rfl (by kernel_rfl) (by kernel_rfl) (by kernel_rfl) (fun _ _ _ h => h) (by rfl) ?y6 ?r6
        case y6 => (intro w9q hSwq; clear hSwq; go_simp; with_reducible rfl)
        try simp only [Act.put, List.setIfInBounds_toArray, List.set_cons_zero, List.set_cons_succ]
        refine rest_got (i := 6) (v := ?v7) rfl (by kernel_rfl) (by kernel_rfl) (by kernel_rfl) (fun _ _ _ h => h) (by rfl) ?y7 ?r7
        case y7 => (intro w9q hSwq; clear hSwq; go_simp; with_reducible rfl)
        try simp only [Act.put, List.setIfInBounds_toArray, List.set_cons_zero, List.set_cons_succ]
        refine rest_got (i := 7) (v := ?v8) rfl (by kernel_rfl) (by kernel_rfl) (by kernel_rfl) (fun _ _ _ h => h) (by rfl) ?y8 ?r8
        case y8 => (intro w9q hSwq; clear hSwq; go_simp; with_reducible rfl)
        try simp only [Act.put, List.setIfInBounds_toArray, List.set_cons_zero, List.set_cons_succ]
        refine rest_got (i := 8) (v := ?v9) rfl (by kernel_rfl) (by kernel_rfl) (by kernel_rfl) (fun _ _ _ h => h) (by rfl) ?y9 ?r9
        case y9 => (intro w9q hSwq; clear hSwq; go_simp; with_reducible rfl)
        try simp only [Act.put, List.setIfInBounds_toArray, List.set_cons_zero, List.set_cons_succ]
        refine rest_got (i := 9) (v := ?v10) rfl (by kernel_rfl) (by kernel_rfl) (by kernel_rfl) (fun _ _ _ h => h) (by rfl) ?y10 ?r10
        case y10 => (intro w9q hSwq; clear hSwq; go_simp; with_reducible rfl)
        try simp only [Act.put, List.setIfInBounds_toArray, List.set_cons_zero, List.set_cons_succ]
        refine rest_got (i := 10) (v := ?v11) rfl (by kernel_rfl) (by kernel_rfl) (by kernel_rfl) (fun _ _ _ h => h) (by rfl) ?y11 ?r11
        case y11 => ((intro w9' hm9'; have hc9' := Mod.cell hm9' CXA6.out (by first | exact List.not_mem_nil | assumption | (simp; done) | (simp; omega)); clear hm9'; go_simp; with_reducible rfl))
        try simp only [Act.put, List.setIfInBounds_toArray, List.set_cons_zero, List.set_cons_succ]
        refine rest_got (i := 11) (v := ?v12) rfl (by kernel_rfl) (by kernel_rfl) (by kernel_rfl) (fun _ _ _ h => h) (by rfl) ?y12 ?r12
        case y12 => (intro w9q hSwq; clear hSwq; go_simp; with_reducible rfl)
        try simp only [Act.put, List.setIfInBounds_toArray, List.set_cons_zero, List.set_cons_succ]
        refine rest_got (i := 12) (v := ?v13) rfl (by kernel_rfl) (by kernel_rfl) (by kernel_rfl) (fun _ _ _ h => h) (by rfl) ?y13 ?r13
        case y13 => (intro w9q hSwq; clear hSwq; go_simp; with_reducible rfl)
        try simp only [Act.put, List.setIfInBounds_toArray, List.set_cons_zero, List.set_cons_succ]
        refine rest_got (i := 13) (v := ?v14) rfl (by kernel_rfl) (by kernel_rfl) (by kernel_rfl) (fun _ _ _ h => h) (by rfl) ?y14 ?r14
        case y14 => (intro w9q hSwq; clear hSwq; go_simp; with_reducible rfl)
        try simp only [Act.put, List.setIfInBounds_toArray, List.set_cons_zero, List.set_cons_succ]
        refine rest_got (i := 14) (v := ?v15) rfl (by kernel_rfl) (by kernel_rfl) (by kernel_rfl) (fun _ _ _ h => h) (by rfl) ?y15 ?r15
        case y15 => (intro w9q hSwq; clear hSwq; go_simp; with_reducible rfl)
        try simp only [Act.put, List.setIfInBounds_toArray, List.set_cons_zero, List.set_cons_succ]
        refine rest_got (i := 15) (v := ?v16) rfl (by kernel_rfl) (by kernel_rfl) (by kernel_rfl) (fun _ _ _ h => h) (by rfl) ?y16 ?r16
        case y16 => (intro w9q hSwq; clear hSwq; go_simp; with_reducible rfl)
        try simp only [Act.put, List.setIfInBounds_toArray, List.set_cons_zero, List.set_cons_succ]
        refine rest_got (i := 16) (v := ?v17) rfl (by kernel_rfl) (by kernel_rfl) (by kernel_rfl) (fun _ _ _ h => h) (by rfl) ?y17 ?r17
        case y17 => (intro w9q hSwq; clear hSwq; go_simp; with_reducible rfl)
        try simp only [Act.put, List.setIfInBounds_toArray, List.set_cons_zero, List.set_cons_succ]
        refine rest_got (i := 17) (v := ?v18) rfl (by kernel_rfl) (by kernel_rfl) (by kernel_rfl) (fun _ _ _ h => h) (by rfl) ?y18 ?r18
        case y18 => ((intro w9' hm9'; have hc9' := Mod.cell hm9' CYA6.out (by first | exact List.not_mem_nil | assumption | (simp; done) | (simp; omega)); clear hm9'; go_simp; with_reducible rfl))
        try simp only [Act.put, List.setIfInBounds_toArray, List.set_cons_zero, List.set_cons_succ]
        refine rest_one (i := 18) (by kernel_rfl) rfl (by rfl) ?_
        go_wp2_with fail
        refine HLA6.out.mono ?_
        rintro e wA ⟨rfl, rfl⟩
        go_wp2_with fail
        refine back_to (K1 := []) (Mod.refl _ _) (by simp) ?_
        clear HLA6 CXA6 CYA6
        refine rest_got (i := 19) (v := ?v19) rfl (by kernel_rfl) (by kernel_rfl) (by kernel_rfl) (fun _ _ _ h => h) (by rfl) ?y19 ?r19
        case y19 => (intro w9q hSwq; clear hSwq; go_simp; with_reducible rfl)
        try simp only [Act.put, List.setIfInBounds_toArray, List.set_cons_zero, List.set_cons_succ]
        refine rest_done (by kernel_rfl) ?_ _
        have RA := Lib.hid (HR.out.mod0 NA.out)
        have MA := Lib.hid NA.out
        clear NA CXA CYA HLA
        cases blA with
        | true =>
          have HK : Hid (siftK hi first root c1 d1 = D) := Lib.hid (by
            rw [← HD.out, sift_right (by omega) (by have := HBA.out; rw [← hfc1, ← hfc, ← hc] at this; exact this), show 2 * root + 2 = c1 by omega])
          clear HBA
          obtain ⟨fk, hfk⟩ : ∃ x, first + c1 = x := ⟨_, rfl⟩
          have ek : IntKind.i64.wrap ((first : Int) + (c1 : Int)) = (fk : Int) := by rw [show (first : Int) + (c1 : Int) = (fk : Int) by omega]; exact IntWalk.i64_in _ (by omega)
          have Bfk : (fk : Int) < (n : Int) := by omega
          obtain ⟨xB, hxB⟩ : ∃ q, (d1)[fr]! = q := ⟨_, rfl⟩
          obtain ⟨yB, hyB⟩ : ∃ q, (d1)[fk]! = q := ⟨_, rfl⟩
          have CXB := Lib.hid (RA.out.cell (i := fr) (by rw [HN.out]; omega) hxB)
          have CYB := Lib.hid (RA.out.cell (i := fk) (by rw [HN.out]; omega) hyB)
          obtain ⟨blB, hblB⟩ : ∃ q, ltN xB yB = q := ⟨_, rfl⟩
          have HLB := Lib.hid (less_any xB yB blB hblB)
          have HBB : Hid (ltN (d1)[fr]! (d1)[fk]! = blB) := Lib.hid (by rw [hxB, hyB]; exact hblB)
          clear hxB hyB hblB
          go_upto_region 5 with (fail)
          refine rest_start [] 14 #[false, false, false, false, false, false, false, false, false, false, false, false, false, false] rfl (by kernel_rfl) (by kernel_rfl) ?_
          intro uB mB
          have CXB6 := Lib.hid (mB.cell CXB.out List.not_mem_nil)
          have CYB6 := Lib.hid (mB.cell CYB.out List.not_mem_nil)
          have NB := Lib.hid mB
          have HLB6 := Lib.hid (HLB.out uB)
          clear mB
          refine rest_got (i := 0) (v := ?v20) rfl (by kernel_rfl) (by kernel_rfl) (by kernel_rfl) (fun _ _ _ h => h) (by rfl) ?y20 ?r20
          case y20 => (intro w9q hSwq; clear hSwq; go_simp; with_reducible rfl)
          try simp only [Act.put, List.setIfInBounds_toArray, List.set_cons_zero, List.set_cons_succ]
          refine rest_got (i := 1) (v := ?v21) rfl (by kernel_rfl) (by kernel_rfl) (by kernel_rfl) (fun _ _ _ h => h) (by rfl) ?y21 ?r21
          case y21 => (intro w9q hSwq; clear hSwq; go_simp; with_reducible rfl)
          try simp only [Act.put, List.setIfInBounds_toArray, List.set_cons_zero, List.set_cons_succ]
          refine rest_got (i := 2) (v := ?v22) rfl (by kernel_rfl) (by kernel_rfl) (by kernel_rfl) (fun _ _ _ h => h) (by rfl) ?y22 ?r22
          case y22 => (intro w9q hSwq; clear hSwq; go_simp; with_reducible rfl)
          try simp only [Act.put, List.setIfInBounds_toArray, List.set_cons_zero, List.set_cons_succ]
          refine rest_got (i := 3) (v := ?v23) rfl (by kernel_rfl) (by kernel_rfl) (by kernel_rfl) (fun _ _ _ h => h) (by rfl) ?y23 ?r23
          case y23 => (intro w9q hSwq; clear hSwq; go_simp; with_reducible rfl)
          try simp only [Act.put, List.setIfInBounds_toArray, List.set_cons_zero, List.set_cons_succ]
          refine rest_got (i := 4) (v := ?v24) rfl (by kernel_rfl) (by kernel_rfl) (by kernel_rfl) (fun _ _ _ h => h) (by rfl) ?y24 ?r24
          case y24 => (intro w9q hSwq; clear hSwq; go_simp; with_reducible rfl)
          try simp only [Act.put, List.setIfInBounds_toArray, List.set_cons_zero, List.set_cons_succ]
          refine rest_got (i := 5) (v := ?v25) rfl (by kernel_rfl) (by kernel_rfl) (by kernel_rfl) (fun _ _ _ h => h) (by rfl) ?y25 ?r25
          case y25 => ((intro w9' hm9'; have hc9' := Mod.cell hm9' CXB6.out (by first | exact List.not_mem_nil | assumption | (simp; done) | (simp; omega)); clear hm9'; go_simp; with_reducible rfl))
          try simp only [Act.put, List.setIfInBounds_toArray, List.set_cons_zero, List.set_cons_succ]
          refine rest_got (i := 6) (v := ?v26) rfl (by kernel_rfl) (by kernel_rfl) (by kernel_rfl) (fun _ _ _ h => h) (by rfl) ?y26 ?r26
          case y26 => (intro w9q hSwq; clear hSwq; go_simp; with_reducible rfl)
          try simp only [Act.put, List.setIfInBounds_toArray, List.set_cons_zero, List.set_cons_succ]
          refine rest_got (i := 7) (v := ?v27) rfl (by kernel_rfl) (by kernel_rfl) (by kernel_rfl) (fun _ _ _ h => h) (by rfl) ?y27 ?r27
          case y27 => (intro w9q hSwq; clear hSwq; go_simp; with_reducible rfl)
          try simp only [Act.put, List.setIfInBounds_toArray, List.set_cons_zero, List.set_cons_succ]
          refine rest_got (i := 8) (v := ?v28) rfl (by kernel_rfl) (by kernel_rfl) (by kernel_rfl) (fun _ _ _ h => h) (by rfl) ?y28 ?r28
          case y28 => (intro w9q hSwq; clear hSwq; go_simp; with_reducible rfl)
          try simp only [Act.put, List.setIfInBounds_toArray, List.set_cons_zero, List.set_cons_succ]
          refine rest_got (i := 9) (v := ?v29) rfl (by kernel_rfl) (by kernel_rfl) (by kernel_rfl) (fun _ _ _ h => h) (by rfl) ?y29 ?r29
          case y29 => (intro w9q hSwq; clear hSwq; go_simp; with_reducible rfl)
          try simp only [Act.put, List.setIfInBounds_toArray, List.set_cons_zero, List.set_cons_succ]
          refine rest_got (i := 10) (v := ?v30) rfl (by kernel_rfl) (by kernel_rfl) (by kernel_rfl) (fun _ _ _ h => h) (by rfl) ?y30 ?r30
          case y30 => (intro w9q hSwq; clear hSwq; go_simp; with_reducible rfl)
          try simp only [Act.put, List.setIfInBounds_toArray, List.set_cons_zero, List.set_cons_succ]
          refine rest_got (i := 11) (v := ?v31) rfl (by kernel_rfl) (by kernel_rfl) (by kernel_rfl) (fun _ _ _ h => h) (by rfl) ?y31 ?r31
          case y31 => ((intro w9' hm9'; have hc9' := Mod.cell hm9' CYB6.out (by first | exact List.not_mem_nil | assumption | (simp; done) | (simp; omega)); clear hm9'; go_simp; with_reducible rfl))
          try simp only [Act.put, List.setIfInBounds_toArray, List.set_cons_zero, List.set_cons_succ]
          refine rest_one (i := 12) (by kernel_rfl) rfl (by rfl) ?_
          go_wp2_with fail
          refine HLB6.out.mono ?_
          rintro e wB ⟨rfl, rfl⟩
          go_wp2_with fail
          refine back_to (K1 := []) (Mod.refl _ _) (by simp) ?_
          clear HLB6 CXB6 CYB6
          refine rest_got (i := 13) (v := ?v32) rfl (by kernel_rfl) (by kernel_rfl) (by kernel_rfl) (fun _ _ _ h => h) (by rfl) ?y32 ?r32
          case y32 => (intro w9q hSwq; clear hSwq; go_simp; with_reducible rfl)
          try simp only [Act.put, List.setIfInBounds_toArray, List.set_cons_zero, List.set_cons_succ]
          refine rest_done (by kernel_rfl) ?_ _
          have RB := Lib.hid (RA.out.mod0 NB.out)
          have MB := Lib.hid NB.out
          clear NB CXB CYB HLB
          cases blB with
          | true =>
            have HK2 : Hid (Sort.siftDown ltN hi first c1 (Sort.swp d1 fr fk) = D) := Lib.hid (by
              have := HK.out
              unfold siftK at this
              rw [hfr, hfk, if_pos HBB.out] at this
              exact this)
            clear HBB HK
            obtain ⟨xiS, hxiS⟩ : ∃ x, (d1)[fr]! = x := ⟨_, rfl⟩
            obtain ⟨xjS, hxjS⟩ : ∃ x, (d1)[fk]! = x := ⟨_, rfl⟩
            have HSIS : Hid ((d1)[fr]! = xiS) := Lib.hid hxiS
            have HSJS : Hid ((d1)[fk]! = xjS) := Lib.hid hxjS
            have HBIS : fr < (d1).size := by rw [HN.out]; omega
            have HBJS : fk < (d1).size := by rw [HN.out]; omega
            clear hxiS hxjS
            go_upto_region 6 with (fail)
            refine restu_start 21 [] [g] 24 #[false, false, false, false, false, false, false, false, false, false, false, false, false, false, false, false, false, false, false, false, false, false, false, false] rfl (by kernel_rfl) (by kernel_rfl) ?_
            intro vS nS
            have RvS := Lib.hid (RB.out.mod0 nS)
            have CiS := Lib.hid (RvS.out.cell HBIS HSIS.out)
            have CjS := Lib.hid (RvS.out.cell HBJS HSJS.out)
            have NvS := Lib.hid nS
            clear nS
            refine restu_got (i := 0) (v := ?v33) rfl (by kernel_rfl) (by kernel_rfl) (by kernel_rfl) (by rfl) (fun _ _ _ h => h) (by rfl) ?y33 ?r33
            case y33 => (intro w9q hSwq; clear hSwq; go_simp; with_reducible rfl)
            try simp only [Act.put, List.setIfInBounds_toArray, List.set_cons_zero, List.set_cons_succ]
            refine restu_got (i := 1) (v := ?v34) rfl (by kernel_rfl) (by kernel_rfl) (by kernel_rfl) (by rfl) (fun _ _ _ h => h) (by rfl) ?y34 ?r34
            case y34 => (intro w9q hSwq; clear hSwq; go_simp; with_reducible rfl)
            try simp only [Act.put, List.setIfInBounds_toArray, List.set_cons_zero, List.set_cons_succ]
            refine restu_got (i := 2) (v := ?v35) rfl (by kernel_rfl) (by kernel_rfl) (by kernel_rfl) (by rfl) (fun _ _ _ h => h) (by rfl) ?y35 ?r35
            case y35 => (intro w9q hSwq; clear hSwq; go_simp; with_reducible rfl)
            try simp only [Act.put, List.setIfInBounds_toArray, List.set_cons_zero, List.set_cons_succ]
            refine restu_got (i := 3) (v := ?v36) rfl (by kernel_rfl) (by kernel_rfl) (by kernel_rfl) (by rfl) (fun _ _ _ h => h) (by rfl) ?y36 ?r36
            case y36 => (intro w9q hSwq; clear hSwq; go_simp; with_reducible rfl)
            try simp only [Act.put, List.setIfInBounds_toArray, List.set_cons_zero, List.set_cons_succ]
            refine restu_got (i := 4) (v := ?v37) rfl (by kernel_rfl) (by kernel_rfl) (by kernel_rfl) (by rfl) (fun _ _ _ h => h) (by rfl) ?y37 ?r37
            case y37 => (intro w9q hSwq; clear hSwq; go_simp; with_reducible rfl)
            try simp only [Act.put, List.setIfInBounds_toArray, List.set_cons_zero, List.set_cons_succ]
            refine restu_got (i := 5) (v := ?v38) rfl (by kernel_rfl) (by kernel_rfl) (by kernel_rfl) (by rfl) (fun _ _ _ h => h) (by rfl) ?y38 ?r38
            case y38 => (intro w9q hSwq; clear hSwq; go_simp; with_reducible rfl)
            try simp only [Act.put, List.setIfInBounds_toArray, List.set_cons_zero, List.set_cons_succ]
            refine restu_got (i := 6) (v := ?v39) rfl (by kernel_rfl) (by kernel_rfl) (by kernel_rfl) (by rfl) (fun _ _ _ h => h) (by rfl) ?y39 ?r39
            case y39 => (intro w9q hSwq; clear hSwq; go_simp; with_reducible rfl)
            try simp only [Act.put, List.setIfInBounds_toArray, List.set_cons_zero, List.set_cons_succ]
            refine restu_got (i := 7) (v := ?v40) rfl (by kernel_rfl) (by kernel_rfl) (by kernel_rfl) (by rfl) (fun _ _ _ h => h) (by rfl) ?y40 ?r40
            case y40 => (intro w9q hSwq; clear hSwq; go_simp; with_reducible rfl)
            try simp only [Act.put, List.setIfInBounds_toArray, List.set_cons_zero, List.set_cons_succ]
            refine restu_got (i := 8) (v := ?v41) rfl (by kernel_rfl) (by kernel_rfl) (by kernel_rfl) (by rfl) (fun _ _ _ h => h) (by rfl) ?y41 ?r41
            case y41 => (intro w9q hSwq; clear hSwq; go_simp; with_reducible rfl)
            try simp only [Act.put, List.setIfInBounds_toArray, List.set_cons_zero, List.set_cons_succ]
            refine restu_got (i := 9) (v := ?v42) rfl (by kernel_rfl) (by kernel_rfl) (by kernel_rfl) (by rfl) (fun _ _ _ h => h) (by rfl) ?y42 ?r42
            case y42 => (intro w9q hSwq; clear hSwq; go_simp; with_reducible rfl)
            try simp only [Act.put, List.setIfInBounds_toArray, List.set_cons_zero, List.set_cons_succ]
            refine restu_got (i := 10) (v := ?v43) rfl (by kernel_rfl) (by kernel_rfl) (by kernel_rfl) (by rfl) (fun _ _ _ h => h) (by rfl) ?y43 ?r43
            case y43 => (intro w9q hSwq; clear hSwq; go_simp; with_reducible rfl)
            try simp only [Act.put, List.setIfInBounds_toArray, List.set_cons_zero, List.set_cons_succ]
            refine restu_got (i := 11) (v := ?v44) rfl (by kernel_rfl) (by kernel_rfl) (by kernel_rfl) (by rfl) (fun _ _ _ h => h) (by rfl) ?y44 ?r44
            case y44 => (intro w9q hSwq; clear hSwq; go_simp; with_reducible rfl)
            try simp only [Act.put, List.setIfInBounds_toArray, List.set_cons_zero, List.set_cons_succ]
            refine restu_got (i := 12) (v := ?v45) rfl (by kernel_rfl) (by kernel_rfl) (by kernel_rfl) (by rfl) (fun _ _ _ h => h) (by rfl) ?y45 ?r45
            case y45 => (intro w9q hSwq; clear hSwq; go_simp; with_reducible rfl)
            try simp only [Act.put, List.setIfInBounds_toArray, List.set_cons_zero, List.set_cons_succ]
            refine restu_early (i := 13) [20, 21, 22, 23] (v := ?v46) rfl (by kernel_rfl) (by kernel_rfl) (by kernel_rfl) (by rfl) (by kernel_rfl) (by rfl) (by kernel_rfl) (fun _ _ _ h => h) (by rfl) ?y46 ?r46
            case y46 => ((intro w9' hm9'; have hc9' := Mod.cell hm9' CjS.out (by first | exact List.not_mem_nil | assumption | (simp; done) | (simp; omega)); clear hm9'; go_simp; with_reducible rfl))
            try simp only [Act.put, List.setIfInBounds_toArray, List.set_cons_zero, List.set_cons_succ]
            refine restu_got (i := 14) (v := ?v47) rfl (by kernel_rfl) (by kernel_rfl) (by kernel_rfl) (by rfl) (fun _ _ _ h => h) (by rfl) ?y47 ?r47
            case y47 => (intro w9q hSwq; clear hSwq; go_simp; with_reducible rfl)
            try simp only [Act.put, List.setIfInBounds_toArray, List.set_cons_zero, List.set_cons_succ]
            refine restu_got (i := 15) (v := ?v48) rfl (by kernel_rfl) (by kernel_rfl) (by kernel_rfl) (by rfl) (fun _ _ _ h => h) (by rfl) ?y48 ?r48
            case y48 => (intro w9q hSwq; clear hSwq; go_simp; with_reducible rfl)
            try simp only [Act.put, List.setIfInBounds_toArray, List.set_cons_zero, List.set_cons_succ]
            refine restu_got (i := 16) (v := ?v49) rfl (by kernel_rfl) (by kernel_rfl) (by kernel_rfl) (by rfl) (fun _ _ _ h => h) (by rfl) ?y49 ?r49
            case y49 => (intro w9q hSwq; clear hSwq; go_simp; with_reducible rfl)
            try simp only [Act.put, List.setIfInBounds_toArray, List.set_cons_zero, List.set_cons_succ]
            refine restu_got (i := 17) (v := ?v50) rfl (by kernel_rfl) (by kernel_rfl) (by kernel_rfl) (by rfl) (fun _ _ _ h => h) (by rfl) ?y50 ?r50
            case y50 => (intro w9q hSwq; clear hSwq; go_simp; with_reducible rfl)
            try simp only [Act.put, List.setIfInBounds_toArray, List.set_cons_zero, List.set_cons_succ]
            refine restu_got (i := 18) (v := ?v51) rfl (by kernel_rfl) (by kernel_rfl) (by kernel_rfl) (by rfl) (fun _ _ _ h => h) (by rfl) ?y51 ?r51
            case y51 => (intro w9q hSwq; clear hSwq; go_simp; with_reducible rfl)
            try simp only [Act.put, List.setIfInBounds_toArray, List.set_cons_zero, List.set_cons_succ]
            refine restu_early (i := 19) [20, 21, 22, 23] (v := ?v52) rfl (by kernel_rfl) (by kernel_rfl) (by kernel_rfl) (by rfl) (by kernel_rfl) (by rfl) (by kernel_rfl) (fun _ _ _ h => h) (by rfl) ?y52 ?r52
            case y52 => ((intro w9' hm9'; have hc9' := Mod.cell hm9' CiS.out (by first | exact List.not_mem_nil | assumption | (simp; done) | (simp; omega)); clear hm9'; go_simp; with_reducible rfl))
            try simp only [Act.put, List.setIfInBounds_toArray, List.set_cons_zero, List.set_cons_succ]
            refine restu_got (i := 20) (v := ?v53) rfl (by kernel_rfl) (by kernel_rfl) (by kernel_rfl) (by rfl) (fun _ _ _ h => h) (by rfl) ?y53 ?r53
            case y53 => (intro w9q hSwq; clear hSwq; go_simp; with_reducible rfl)
            try simp only [Act.put, List.setIfInBounds_toArray, List.set_cons_zero, List.set_cons_succ]
            refine restu_one (i := 21) (by kernel_rfl) rfl (by rfl) ?_
            have ciS := (RvS.out.at' HBIS).1
            have fiS := (RvS.out.at' HBIS).2
            go_wp2_with fail
            have RaS := Lib.hid (RvS.out.set fr xjS)
            have naS : Mod [g] vS (vS.setCell ⟨g, fr, none⟩ (.int .u32 (xjS : Int))) := Mod.setCell _ _ _ (by simp)
            have NaS := Lib.hid (NvS.out.nil.trans' naS)
            have RbS := Lib.hid (RvS.out.swp HSIS.out HSJS.out)
            refine backm_to (K1 := [g]) (by kernel_rfl) naS (fun _ h _ => h) ?_
            clear naS ciS fiS CiS CjS NvS RvS
            refine rest_got (i := 22) (v := ?v54) rfl (by kernel_rfl) (by kernel_rfl) (by kernel_rfl) (fun _ _ _ h => h) (by rfl) ?y54 ?r54
            case y54 => (intro w9q hSwq; clear hSwq; go_simp; with_reducible rfl)
            try simp only [Act.put, List.setIfInBounds_toArray, List.set_cons_zero, List.set_cons_succ]
            refine rest_one (i := 23) (by kernel_rfl) rfl (by rfl) ?_
            have cjS := (RaS.out.at' (i := fk) (by rw [Array.size_setIfInBounds]; exact HBJS)).1
            have fjS := (RaS.out.at' (i := fk) (by rw [Array.size_setIfInBounds]; exact HBJS)).2
            go_wp2_with fail
            have nbS : Mod [g] (vS.setCell ⟨g, fr, none⟩ (.int .u32 (xjS : Int))) ((vS.setCell ⟨g, fr, none⟩ (.int .u32 (xjS : Int))).setCell ⟨g, fk, none⟩ (.int .u32 (xiS : Int))) := Mod.setCell _ _ _ (by simp)
            have MS := Lib.hid (NaS.out.trans' nbS)
            have RS := Lib.hid RbS.out
            refine back_to (K1 := []) nbS (by simp) ?_
            clear nbS cjS fjS NaS RaS RbS HSIS HSJS
            refine rest_done (by kernel_rfl) ?_ _
            go_wp2
            go_roundw
            case rel => exact ⟨c1, Sort.swp d1 fr fk, by omega, by first | rfl | (congr 1; omega), RS.out, by rw [size_swp, HN.out], HK2.out, ((HM.out.trans0 MA.out).trans0 MB.out).trans' MS.out⟩
            case measure => simp [RowKit.intOf]; omega
          | false =>
            have hF : d1 = D := by
              have := HK.out
              unfold siftK at this
              rw [hfr, hfk, HBB.out] at this
              exact this
            subst hF
            go_wp2

            first | go_end0 | (refine bodyPost_ret (results_none rfl _ _ _) rfl ?_)
            exact ⟨rfl, RB.out, (HM.out.trans0 MA.out).trans0 MB.out⟩
        | false =>
          have HK : Hid (siftK hi first root c d1 = D) := Lib.hid (by
            rw [← HD.out, sift_left (by omega) (.inr (by have := HBA.out; rw [← hfc1, ← hfc, ← hc] at this; exact this)), show 2 * root + 1 = c by omega])
          clear HBA
          obtain ⟨xB, hxB⟩ : ∃ q, (d1)[fr]! = q := ⟨_, rfl⟩
          obtain ⟨yB, hyB⟩ : ∃ q, (d1)[fc]! = q := ⟨_, rfl⟩
          have CXB := Lib.hid (RA.out.cell (i := fr) (by rw [HN.out]; omega) hxB)
          have CYB := Lib.hid (RA.out.cell (i := fc) (by rw [HN.out]; omega) hyB)
          obtain ⟨blB, hblB⟩ : ∃ q, ltN xB yB = q := ⟨_, rfl⟩
          have HLB := Lib.hid (less_any xB yB blB hblB)
          have HBB : Hid (ltN (d1)[fr]! (d1)[fc]! = blB) := Lib.hid (by rw [hxB, hyB]; exact hblB)
          clear hxB hyB hblB
          go_upto_region 5 with (fail)
          refine rest_start [] 14 #[false, false, false, false, false, false, false, false, false, false, false, false, false, false] rfl (by kernel_rfl) (by kernel_rfl) ?_
          intro uB mB
          have CXB6 := Lib.hid (mB.cell CXB.out List.not_mem_nil)
          have CYB6 := Lib.hid (mB.cell CYB.out List.not_mem_nil)
          have NB := Lib.hid mB
          have HLB6 := Lib.hid (HLB.out uB)
          clear mB
          refine rest_got (i := 0) (v := ?v55) rfl (by kernel_rfl) (by kernel_rfl) (by kernel_rfl) (fun _ _ _ h => h) (by rfl) ?y55 ?r55
          case y55 => (intro w9q hSwq; clear hSwq; go_simp; with_reducible rfl)
          try simp only [Act.put, List.setIfInBounds_toArray, List.set_cons_zero, List.set_cons_succ]
          refine rest_got (i := 1) (v := ?v56) rfl (by kernel_rfl) (by kernel_rfl) (by kernel_rfl) (fun _ _ _ h => h) (by rfl) ?y56 ?r56
          case y56 => (intro w9q hSwq; clear hSwq; go_simp; with_reducible rfl)
          try simp only [Act.put, List.setIfInBounds_toArray, List.set_cons_zero, List.set_cons_succ]
          refine rest_got (i := 2) (v := ?v57) rfl (by kernel_rfl) (by kernel_rfl) (by kernel_rfl) (fun _ _ _ h => h) (by rfl) ?y57 ?r57
          case y57 => (intro w9q hSwq; clear hSwq; go_simp; with_reducible rfl)
          try simp only [Act.put, List.setIfInBounds_toArray, List.set_cons_zero, List.set_cons_succ]
          refine rest_got (i := 3) (v := ?v58) rfl (by kernel_rfl) (by kernel_rfl) (by kernel_rfl) (fun _ _ _ h => h) (by rfl) ?y58 ?r58
          case y58 => (intro w9q hSwq; clear hSwq; go_simp; with_reducible rfl)
          try simp only [Act.put, List.setIfInBounds_toArray, List.set_cons_zero, List.set_cons_succ]
          refine rest_got (i := 4) (v := ?v59) rfl (by kernel_rfl) (by kernel_rfl) (by kernel_rfl) (fun _ _ _ h => h) (by rfl) ?y59 ?r59
          case y59 => (intro w9q hSwq; clear hSwq; go_simp; with_reducible rfl)
          try simp only [Act.put, List.setIfInBounds_toArray, List.set_cons_zero, List.set_cons_succ]
          refine rest_got (i := 5) (v := ?v60) rfl (by kernel_rfl) (by kernel_rfl) (by kernel_rfl) (fun _ _ _ h => h) (by rfl) ?y60 ?r60
          case y60 => ((intro w9' hm9'; have hc9' := Mod.cell hm9' CXB6.out (by first | exact List.not_mem_nil | assumption | (simp; done) | (simp; omega)); clear hm9'; go_simp; with_reducible rfl))
          try simp only [Act.put, List.setIfInBounds_toArray, List.set_cons_zero, List.set_cons_succ]
          refine rest_got (i := 6) (v := ?v61) rfl (by kernel_rfl) (by kernel_rfl) (by kernel_rfl) (fun _ _ _ h => h) (by rfl) ?y61 ?r61
          case y61 => (intro w9q hSwq; clear hSwq; go_simp; with_reducible rfl)
          try simp only [Act.put, List.setIfInBounds_toArray, List.set_cons_zero, List.set_cons_succ]
          refine rest_got (i := 7) (v := ?v62) rfl (by kernel_rfl) (by kernel_rfl) (by kernel_rfl) (fun _ _ _ h => h) (by rfl) ?y62 ?r62
          case y62 => (intro w9q hSwq; clear hSwq; go_simp; with_reducible rfl)
          try simp only [Act.put, List.setIfInBounds_toArray, List.set_cons_zero, List.set_cons_succ]
          refine rest_got (i := 8) (v := ?v63) rfl (by kernel_rfl) (by kernel_rfl) (by kernel_rfl) (fun _ _ _ h => h) (by rfl) ?y63 ?r63
          case y63 => (intro w9q hSwq; clear hSwq; go_simp; with_reducible rfl)
          try simp only [Act.put, List.setIfInBounds_toArray, List.set_cons_zero, List.set_cons_succ]
          refine rest_got (i := 9) (v := ?v64) rfl (by kernel_rfl) (by kernel_rfl) (by kernel_rfl) (fun _ _ _ h => h) (by rfl) ?y64 ?r64
          case y64 => (intro w9q hSwq; clear hSwq; go_simp; with_reducible rfl)
          try simp only [Act.put, List.setIfInBounds_toArray, List.set_cons_zero, List.set_cons_succ]
          refine rest_got (i := 10) (v := ?v65) rfl (by kernel_rfl) (by kernel_rfl) (by kernel_rfl) (fun _ _ _ h => h) (by rfl) ?y65 ?r65
          case y65 => (intro w9q hSwq; clear hSwq; go_simp; with_reducible rfl)
          try simp only [Act.put, List.setIfInBounds_toArray, List.set_cons_zero, List.set_cons_succ]
          refine rest_got (i := 11) (v := ?v66) rfl (by kernel_rfl) (by kernel_rfl) (by kernel_rfl) (fun _ _ _ h => h) (by rfl) ?y66 ?r66
          case y66 => ((intro w9' hm9'; have hc9' := Mod.cell hm9' CYB6.out (by first | exact List.not_mem_nil | assumption | (simp; done) | (simp; omega)); clear hm9'; go_simp; with_reducible rfl))
          try simp only [Act.put, List.setIfInBounds_toArray, List.set_cons_zero, List.set_cons_succ]
          refine rest_one (i := 12) (by kernel_rfl) rfl (by rfl) ?_
          go_wp2_with fail
          refine HLB6.out.mono ?_
          rintro e wB ⟨rfl, rfl⟩
          go_wp2_with fail
          refine back_to (K1 := []) (Mod.refl _ _) (by simp) ?_
          clear HLB6 CXB6 CYB6
          refine rest_got (i := 13) (v := ?v67) rfl (by kernel_rfl) (by kernel_rfl) (by kernel_rfl) (fun _ _ _ h => h) (by rfl) ?y67 ?r67
          case y67 => (intro w9q hSwq; clear hSwq; go_simp; with_reducible rfl)
          try simp only [Act.put, List.setIfInBounds_toArray, List.set_cons_zero, List.set_cons_succ]
          refine rest_done (by kernel_rfl) ?_ _
          have RB := Lib.hid (RA.out.mod0 NB.out)
          have MB := Lib.hid NB.out
          clear NB CXB CYB HLB
          cases blB with
          | true =>
            have HK2 : Hid (Sort.siftDown ltN hi first c (Sort.swp d1 fr fc) = D) := Lib.hid (by
              have := HK.out
              unfold siftK at this
              rw [hfr, hfc, if_pos HBB.out] at this
              exact this)
            clear HBB HK
            obtain ⟨xiS, hxiS⟩ : ∃ x, (d1)[fr]! = x := ⟨_, rfl⟩
            obtain ⟨xjS, hxjS⟩ : ∃ x, (d1)[fc]! = x := ⟨_, rfl⟩
            have HSIS : Hid ((d1)[fr]! = xiS) := Lib.hid hxiS
            have HSJS : Hid ((d1)[fc]! = xjS) := Lib.hid hxjS
            have HBIS : fr < (d1).size := by rw [HN.out]; omega
            have HBJS : fc < (d1).size := by rw [HN.out]; omega
            clear hxiS hxjS
            go_upto_region 6 with (fail)
            refine restu_start 21 [] [g] 24 #[false, false, false, false, false, false, false, false, false, false, false, false, false, false, false, false, false, false, false, false, false, false, false, false] rfl (by kernel_rfl) (by kernel_rfl) ?_
            intro vS nS
            have RvS := Lib.hid (RB.out.mod0 nS)
            have CiS := Lib.hid (RvS.out.cell HBIS HSIS.out)
            have CjS := Lib.hid (RvS.out.cell HBJS HSJS.out)
            have NvS := Lib.hid nS
            clear nS
            refine restu_got (i := 0) (v := ?v68) rfl (by kernel_rfl) (by kernel_rfl) (by kernel_rfl) (by rfl) (fun _ _ _ h => h) (by rfl) ?y68 ?r68
            case y68 => (intro w9q hSwq; clear hSwq; go_simp; with_reducible rfl)
            try simp only [Act.put, List.setIfInBounds_toArray, List.set_cons_zero, List.set_cons_succ]
            refine restu_got (i := 1) (v := ?v69) rfl (by kernel_rfl) (by kernel_rfl) (by kernel_rfl) (by rfl) (fun _ _ _ h => h) (by rfl) ?y69 ?r69
            case y69 => (intro w9q hSwq; clear hSwq; go_simp; with_reducible rfl)
            try simp only [Act.put, List.setIfInBounds_toArray, List.set_cons_zero, List.set_cons_succ]
            refine restu_got (i := 2) (v := ?v70) rfl (by kernel_rfl) (by kernel_rfl) (by kernel_rfl) (by rfl) (fun _ _ _ h => h) (by rfl) ?y70 ?r70
            case y70 => (intro w9q hSwq; clear hSwq; go_simp; with_reducible rfl)
            try simp only [Act.put, List.setIfInBounds_toArray, List.set_cons_zero, List.set_cons_succ]
            refine restu_got (i := 3) (v := ?v71) rfl (by kernel_rfl) (by kernel_rfl) (by kernel_rfl) (by rfl) (fun _ _ _ h => h) (by rfl) ?y71 ?r71
            case y71 => (intro w9q hSwq; clear hSwq; go_simp; with_reducible rfl)
            try simp only [Act.put, List.setIfInBounds_toArray, List.set_cons_zero, List.set_cons_succ]
            refine restu_got (i := 4) (v := ?v72) rfl (by kernel_rfl) (by kernel_rfl) (by kernel_rfl) (by rfl) (fun _ _ _ h => h) (by rfl) ?y72 ?r72
            case y72 => (intro w9q hSwq; clear hSwq; go_simp; with_reducible rfl)
            try simp only [Act.put, List.setIfInBounds_toArray, List.set_cons_zero, List.set_cons_succ]
            refine restu_got (i := 5) (v := ?v73) rfl (by kernel_rfl) (by kernel_rfl) (by kernel_rfl) (by rfl) (fun _ _ _ h => h) (by rfl) ?y73 ?r73
            case y73 => (intro w9q hSwq; clear hSwq; go_simp; with_reducible rfl)
            try simp only [Act.put, List.setIfInBounds_toArray, List.set_cons_zero, List.set_cons_succ]
            refine restu_got (i := 6) (v := ?v74) rfl (by kernel_rfl) (by kernel_rfl) (by kernel_rfl) (by rfl) (fun _ _ _ h => h) (by rfl) ?y74 ?r74
            case y74 => (intro w9q hSwq; clear hSwq; go_simp; with_reducible rfl)
            try simp only [Act.put, List.setIfInBounds_toArray, List.set_cons_zero, List.set_cons_succ]
            refine restu_got (i := 7) (v := ?v75) rfl (by kernel_rfl) (by kernel_rfl) (by kernel_rfl) (by rfl) (fun _ _ _ h => h) (by rfl) ?y75 ?r75
            case y75 => (intro w9q hSwq; clear hSwq; go_simp; with_reducible rfl)
            try simp only [Act.put, List.setIfInBounds_toArray, List.set_cons_zero, List.set_cons_succ]
            refine restu_got (i := 8) (v := ?v76) rfl (by kernel_rfl) (by kernel_rfl) (by kernel_rfl) (by rfl) (fun _ _ _ h => h) (by rfl) ?y76 ?r76
            case y76 => (intro w9q hSwq; clear hSwq; go_simp; with_reducible rfl)
            try simp only [Act.put, List.setIfInBounds_toArray, List.set_cons_zero, List.set_cons_succ]
            refine restu_got (i := 9) (v := ?v77) rfl (by kernel_rfl) (by kernel_rfl) (by kernel_rfl) (by rfl) (fun _ _ _ h => h) (by rfl) ?y77 ?r77
            case y77 => (intro w9q hSwq; clear hSwq; go_simp; with_reducible rfl)
            try simp only [Act.put, List.setIfInBounds_toArray, List.set_cons_zero, List.set_cons_succ]
            refine restu_got (i := 10) (v := ?v78) rfl (by kernel_rfl) (by kernel_rfl) (by kernel_rfl) (by rfl) (fun _ _ _ h => h) (by rfl) ?y78 ?r78
            case y78 => (intro w9q hSwq; clear hSwq; go_simp; with_reducible rfl)
            try simp only [Act.put, List.setIfInBounds_toArray, List.set_cons_zero, List.set_cons_succ]
            refine restu_got (i := 11) (v := ?v79) rfl (by kernel_rfl) (by kernel_rfl) (by kernel_rfl) (by rfl) (fun _ _ _ h => h) (by rfl) ?y79 ?r79
            case y79 => (intro w9q hSwq; clear hSwq; go_simp; with_reducible rfl)
            try simp only [Act.put, List.setIfInBounds_toArray, List.set_cons_zero, List.set_cons_succ]
            refine restu_got (i := 12) (v := ?v80) rfl (by kernel_rfl) (by kernel_rfl) (by kernel_rfl) (by rfl) (fun _ _ _ h => h) (by rfl) ?y80 ?r80
            case y80 => (intro w9q hSwq; clear hSwq; go_simp; with_reducible rfl)
            try simp only [Act.put, List.setIfInBounds_toArray, List.set_cons_zero, List.set_cons_succ]
            refine restu_early (i := 13) [20, 21, 22, 23] (v := ?v81) rfl (by kernel_rfl) (by kernel_rfl) (by kernel_rfl) (by rfl) (by kernel_rfl) (by rfl) (by kernel_rfl) (fun _ _ _ h => h) (by rfl) ?y81 ?r81
            case y81 => ((intro w9' hm9'; have hc9' := Mod.cell hm9' CjS.out (by first | exact List.not_mem_nil | assumption | (simp; done) | (simp; omega)); clear hm9'; go_simp; with_reducible rfl))
            try simp only [Act.put, List.setIfInBounds_toArray, List.set_cons_zero, List.set_cons_succ]
            refine restu_got (i := 14) (v := ?v82) rfl (by kernel_rfl) (by kernel_rfl) (by kernel_rfl) (by rfl) (fun _ _ _ h => h) (by rfl) ?y82 ?r82
            case y82 => (intro w9q hSwq; clear hSwq; go_simp; with_reducible rfl)
            try simp only [Act.put, List.setIfInBounds_toArray, List.set_cons_zero, List.set_cons_succ]
            refine restu_got (i := 15) (v := ?v83) rfl (by kernel_rfl) (by kernel_rfl) (by kernel_rfl) (by rfl) (fun _ _ _ h => h) (by rfl) ?y83 ?r83
            case y83 => (intro w9q hSwq; clear hSwq; go_simp; with_reducible rfl)
            try simp only [Act.put, List.setIfInBounds_toArray, List.set_cons_zero, List.set_cons_succ]
            refine restu_got (i := 16) (v := ?v84) rfl (by kernel_rfl) (by kernel_rfl) (by kernel_rfl) (by rfl) (fun _ _ _ h => h) (by rfl) ?y84 ?r84
            case y84 => (intro w9q hSwq; clear hSwq; go_simp; with_reducible rfl)
            try simp only [Act.put, List.setIfInBounds_toArray, List.set_cons_zero, List.set_cons_succ]
            refine restu_got (i := 17) (v := ?v85) rfl (by kernel_rfl) (by kernel_rfl) (by kernel_rfl) (by rfl) (fun _ _ _ h => h) (by rfl) ?y85 ?r85
            case y85 => (intro w9q hSwq; clear hSwq; go_simp; with_reducible rfl)
            try simp only [Act.put, List.setIfInBounds_toArray, List.set_cons_zero, List.set_cons_succ]
            refine restu_got (i := 18) (v := ?v86) rfl (by kernel_rfl) (by kernel_rfl) (by kernel_rfl) (by rfl) (fun _ _ _ h => h) (by rfl) ?y86 ?r86
            case y86 => (intro w9q hSwq; clear hSwq; go_simp; with_reducible rfl)
            try simp only [Act.put, List.setIfInBounds_toArray, List.set_cons_zero, List.set_cons_succ]
            refine restu_early (i := 19) [20, 21, 22, 23] (v := ?v87) rfl (by kernel_rfl) (by kernel_rfl) (by kernel_rfl) (by rfl) (by kernel_rfl) (by rfl) (by kernel_rfl) (fun _ _ _ h => h) (by rfl) ?y87 ?r87
            case y87 => ((intro w9' hm9'; have hc9' := Mod.cell hm9' CiS.out (by first | exact List.not_mem_nil | assumption | (simp; done) | (simp; omega)); clear hm9'; go_simp; with_reducible rfl))
            try simp only [Act.put, List.setIfInBounds_toArray, List.set_cons_zero, List.set_cons_succ]
            refine restu_got (i := 20) (v := ?v88) rfl (by kernel_rfl) (by kernel_rfl) (by kernel_rfl) (by rfl) (fun _ _ _ h => h) (by rfl) ?y88 ?r88
            case y88 => (intro w9q hSwq; clear hSwq; go_simp; with_reducible rfl)
            try simp only [Act.put, List.setIfInBounds_toArray, List.set_cons_zero, List.set_cons_succ]
            refine restu_one (i := 21) (by kernel_rfl) rfl (by rfl) ?_
            have ciS := (RvS.out.at' HBIS).1
            have fiS := (RvS.out.at' HBIS).2
            go_wp2_with fail
            have RaS := Lib.hid (RvS.out.set fr xjS)
            have naS : Mod [g] vS (vS.setCell ⟨g, fr, none⟩ (.int .u32 (xjS : Int))) := Mod.setCell _ _ _ (by simp)
            have NaS := Lib.hid (NvS.out.nil.trans' naS)
            have RbS := Lib.hid (RvS.out.swp HSIS.out HSJS.out)
            refine backm_to (K1 := [g]) (by kernel_rfl) naS (fun _ h _ => h) ?_
            clear naS ciS fiS CiS CjS NvS RvS
            refine rest_got (i := 22) (v := ?v89) rfl (by kernel_rfl) (by kernel_rfl) (by kernel_rfl) (fun _ _ _ h => h) (by rfl) ?y89 ?r89
            case y89 => (intro w9q hSwq; clear hSwq; go_simp; with_reducible rfl)
            try simp only [Act.put, List.setIfInBounds_toArray, List.set_cons_zero, List.set_cons_succ]
            refine rest_one (i := 23) (by kernel_rfl) rfl (by rfl) ?_
            have cjS := (RaS.out.at' (i := fc) (by rw [Array.size_setIfInBounds]; exact HBJS)).1
            have fjS := (RaS.out.at' (i := fc) (by rw [Array.size_setIfInBounds]; exact HBJS)).2
            go_wp2_with fail
            have nbS : Mod [g] (vS.setCell ⟨g, fr, none⟩ (.int .u32 (xjS : Int))) ((vS.setCell ⟨g, fr, none⟩ (.int .u32 (xjS : Int))).setCell ⟨g, fc, none⟩ (.int .u32 (xiS : Int))) := Mod.setCell _ _ _ (by simp)
            have MS := Lib.hid (NaS.out.trans' nbS)
            have RS := Lib.hid RbS.out
            refine back_to (K1 := []) nbS (by simp) ?_
            clear nbS cjS fjS NaS RaS RbS HSIS HSJS
            refine rest_done (by kernel_rfl) ?_ _
            go_wp2
            go_roundw
            case rel => exact ⟨c, Sort.swp d1 fr fc, by omega, by first | rfl | (congr 1; omega), RS.out, by rw [size_swp, HN.out], HK2.out, ((HM.out.trans0 MA.out).trans0 MB.out).trans' MS.out⟩
            case measure => simp [RowKit.intOf]; omega
          | false =>
            have hF : d1 = D := by
              have := HK.out
              unfold siftK at this
              rw [hfr, hfc, HBB.out] at this
              exact this
            subst hF
            go_wp2

            first | go_end0 | (refine bodyPost_ret (results_none rfl _ _ _) rfl ?_)
            exact ⟨rfl, RB.out, (HM.out.trans0 MA.out).trans0 MB.out⟩
      · have DG1 : decide (c1 < hi) = false := decide_eq_false hc2
        have DG2 : decide ((c1 : Int) < (hi : Int)) = false := decide_eq_false (by omega)
        have HK : Hid (siftK hi first root c d1 = D) := Lib.hid (by
          rw [← HD.out, sift_left (by omega) (.inl (by omega)), show 2 * root + 1 = c by omega])
        go_upto_region 3 with (fail)
        refine rest_start [] 20 #[false, false, false, false, false, false, false, false, false, false, false, false, false, false, false, false, false, false, false, false] rfl (by kernel_rfl) (by kernel_rfl) ?_
        intro wA mA
        have MA := Lib.hid mA
        have RA := Lib.hid (HR.out.mod0 mA)
        clear mA
        refine rest_got (i := 0) (v := ?v90) rfl (by kernel_rfl) (by kernel_rfl) (by kernel_rfl) (fun _ _ _ h => h) (by rfl) ?y90 ?r90
        case y90 => (intro w9q hSwq; clear hSwq; go_simp; with_reducible rfl)
        try simp only [Act.put, List.setIfInBounds_toArray, List.set_cons_zero, List.set_cons_succ]
        refine rest_got (i := 1) (v := ?v91) rfl (by kernel_rfl) (by kernel_rfl) (by kernel_rfl) (fun _ _ _ h => h) (by rfl) ?y91 ?r91
        case y91 => (intro w9q hSwq; clear hSwq; go_simp; with_reducible rfl)
        try simp only [Act.put, List.setIfInBounds_toArray, List.set_cons_zero, List.set_cons_succ]
        refine rest_got (i := 2) (v := ?v92) rfl (by kernel_rfl) (by kernel_rfl) (by kernel_rfl) (fun _ _ _ h => h) (by rfl) ?y92 ?r92
        case y92 => (intro w9q hSwq; clear hSwq; go_simp; with_reducible rfl)
        try simp only [Act.put, List.setIfInBounds_toArray, List.set_cons_zero, List.set_cons_succ]
        refine rest_got (i := 3) (v := ?v93) rfl (by kernel_rfl) (by kernel_rfl) (by kernel_rfl) (fun _ _ _ h => h) (by rfl) ?y93 ?r93
        case y93 => (intro w9q hSwq; clear hSwq; go_simp; with_reducible rfl)
        try simp only [Act.put, List.setIfInBounds_toArray, List.set_cons_zero, List.set_cons_succ]
        refine rest_got (i := 4) (v := ?v94) rfl (by kernel_rfl) (by kernel_rfl) (by kernel_rfl) (fun _ _ _ h => h) (by rfl) ?y94 ?r94
        case y94 => (intro w9q hSwq; clear hSwq; go_simp; with_reducible rfl)
        try simp only [Act.put, List.setIfInBounds_toArray, List.set_cons_zero, List.set_cons_succ]
        refine rest_skip (i := 5) rfl (by kernel_rfl) (by kernel_rfl) (by kernel_rfl) (fun _ _ _ h => h) (by rfl) ?_
        try simp only [Act.put, List.setIfInBounds_toArray, List.set_cons_zero, List.set_cons_succ]
        refine rest_skip (i := 6) rfl (by kernel_rfl) (by kernel_rfl) (by kernel_rfl) (fun _ _ _ h => h) (by rfl) ?_
        try simp only [Act.put, List.setIfInBounds_toArray, List.set_cons_zero, List.set_cons_succ]
        refine rest_skip (i := 7) rfl (by kernel_rfl) (by kernel_rfl) (by kernel_rfl) (fun _ _ _ h => h) (by rfl) ?_
        try simp only [Act.put, List.setIfInBounds_toArray, List.set_cons_zero, List.set_cons_succ]
        refine rest_skip (i := 8) rfl (by kernel_rfl) (by kernel_rfl) (by kernel_rfl) (fun _ _ _ h => h) (by rfl) ?_
        try simp only [Act.put, List.setIfInBounds_toArray, List.set_cons_zero, List.set_cons_succ]
        refine rest_skip (i := 9) rfl (by kernel_rfl) (by kernel_rfl) (by kernel_rfl) (fun _ _ _ h => h) (by rfl) ?_
        try simp only [Act.put, List.setIfInBounds_toArray, List.set_cons_zero, List.set_cons_succ]
        refine rest_skip (i := 10) rfl (by kernel_rfl) (by kernel_rfl) (by kernel_rfl) (fun _ _ _ h => h) (by rfl) ?_
        try simp only [Act.put, List.setIfInBounds_toArray, List.set_cons_zero, List.set_cons_succ]
        refine rest_skip (i := 11) rfl (by kernel_rfl) (by kernel_rfl) (by kernel_rfl) (fun _ _ _ h => h) (by rfl) ?_
        try simp only [Act.put, List.setIfInBounds_toArray, List.set_cons_zero, List.set_cons_succ]
        refine rest_skip (i := 12) rfl (by kernel_rfl) (by kernel_rfl) (by kernel_rfl) (fun _ _ _ h => h) (by rfl) ?_
        try simp only [Act.put, List.setIfInBounds_toArray, List.set_cons_zero, List.set_cons_succ]
        refine rest_skip (i := 13) rfl (by kernel_rfl) (by kernel_rfl) (by kernel_rfl) (fun _ _ _ h => h) (by rfl) ?_
        try simp only [Act.put, List.setIfInBounds_toArray, List.set_cons_zero, List.set_cons_succ]
        refine rest_skip (i := 14) rfl (by kernel_rfl) (by kernel_rfl) (by kernel_rfl) (fun _ _ _ h => h) (by rfl) ?_
        try simp only [Act.put, List.setIfInBounds_toArray, List.set_cons_zero, List.set_cons_succ]
        refine rest_skip (i := 15) rfl (by kernel_rfl) (by kernel_rfl) (by kernel_rfl) (fun _ _ _ h => h) (by rfl) ?_
        try simp only [Act.put, List.setIfInBounds_toArray, List.set_cons_zero, List.set_cons_succ]
        refine rest_skip (i := 16) rfl (by kernel_rfl) (by kernel_rfl) (by kernel_rfl) (fun _ _ _ h => h) (by rfl) ?_
        try simp only [Act.put, List.setIfInBounds_toArray, List.set_cons_zero, List.set_cons_succ]
        refine rest_skip (i := 17) rfl (by kernel_rfl) (by kernel_rfl) (by kernel_rfl) (fun _ _ _ h => h) (by rfl) ?_
        try simp only [Act.put, List.setIfInBounds_toArray, List.set_cons_zero, List.set_cons_succ]
        refine rest_skip (i := 18) rfl (by kernel_rfl) (by kernel_rfl) (by kernel_rfl) (fun _ _ _ h => h) (by rfl) ?_
        try simp only [Act.put, List.setIfInBounds_toArray, List.set_cons_zero, List.set_cons_succ]
        refine rest_got (i := 19) (v := ?v95) rfl (by kernel_rfl) (by kernel_rfl) (by kernel_rfl) (fun _ _ _ h => h) (by rfl) ?y95 ?r95
        case y95 => (intro w9q hSwq; clear hSwq; go_simp; with_reducible rfl)
        try simp only [Act.put, List.setIfInBounds_toArray, List.set_cons_zero, List.set_cons_succ]
        refine rest_done (by kernel_rfl) ?_ _
        obtain ⟨xB, hxB⟩ : ∃ q, (d1)[fr]! = q := ⟨_, rfl⟩
        obtain ⟨yB, hyB⟩ : ∃ q, (d1)[fc]! = q := ⟨_, rfl⟩
        have CXB := Lib.hid (RA.out.cell (i := fr) (by rw [HN.out]; omega) hxB)
        have CYB := Lib.hid (RA.out.cell (i := fc) (by rw [HN.out]; omega) hyB)
        obtain ⟨blB, hblB⟩ : ∃ q, ltN xB yB = q := ⟨_, rfl⟩
        have HLB := Lib.hid (less_any xB yB blB hblB)
        have HBB : Hid (ltN (d1)[fr]! (d1)[fc]! = blB) := Lib.hid (by rw [hxB, hyB]; exact hblB)
        clear hxB hyB hblB
        go_upto_region 5 with (fail)
        refine rest_start [] 14 #[false, false, false, false, false, false, false, false, false, false, false, false, false, false] rfl (by kernel_rfl) (by kernel_rfl) ?_
        intro uB mB
        have CXB6 := Lib.hid (mB.cell CXB.out List.not_mem_nil)
        have CYB6 := Lib.hid (mB.cell CYB.out List.not_mem_nil)
        have NB := Lib.hid mB
        have HLB6 := Lib.hid (HLB.out uB)
        clear mB
        refine rest_got (i := 0) (v := ?v96) rfl (by kernel_rfl) (by kernel_rfl) (by kernel_rfl) (fun _ _ _ h => h) (by rfl) ?y96 ?r96
        case y96 => (intro w9q hSwq; clear hSwq; go_simp; with_reducible rfl)
        try simp only [Act.put, List.setIfInBounds_toArray, List.set_cons_zero, List.set_cons_succ]
        refine rest_got (i := 1) (v := ?v97) rfl (by kernel_rfl) (by kernel_rfl) (by kernel_rfl) (fun _ _ _ h => h) (by rfl) ?y97 ?r97
        case y97 => (intro w9q hSwq; clear hSwq; go_simp; with_reducible rfl)
        try simp only [Act.put, List.setIfInBounds_toArray, List.set_cons_zero, List.set_cons_succ]
        refine rest_got (i := 2) (v := ?v98) rfl (by kernel_rfl) (by kernel_rfl) (by kernel_rfl) (fun _ _ _ h => h) (by rfl) ?y98 ?r98
        case y98 => (intro w9q hSwq; clear hSwq; go_simp; with_reducible rfl)
        try simp only [Act.put, List.setIfInBounds_toArray, List.set_cons_zero, List.set_cons_succ]
        refine rest_got (i := 3) (v := ?v99) rfl (by kernel_rfl) (by kernel_rfl) (by kernel_rfl) (fun _ _ _ h => h) (by rfl) ?y99 ?r99
        case y99 => (intro w9q hSwq; clear hSwq; go_simp; with_reducible rfl)
        try simp only [Act.put, List.setIfInBounds_toArray, List.set_cons_zero, List.set_cons_succ]
        refine rest_got (i := 4) (v := ?v100) rfl (by kernel_rfl) (by kernel_rfl) (by kernel_rfl) (fun _ _ _ h => h) (by rfl) ?y100 ?r100
        case y100 => (intro w9q hSwq; clear hSwq; go_simp; with_reducible rfl)
        try simp only [Act.put, List.setIfInBounds_toArray, List.set_cons_zero, List.set_cons_succ]
        refine rest_got (i := 5) (v := ?v101) rfl (by kernel_rfl) (by kernel_rfl) (by kernel_rfl) (fun _ _ _ h => h) (by rfl) ?y101 ?r101
        case y101 => ((intro w9' hm9'; have hc9' := Mod.cell hm9' CXB6.out (by first | exact List.not_mem_nil | assumption | (simp; done) | (simp; omega)); clear hm9'; go_simp; with_reducible rfl))
        try simp only [Act.put, List.setIfInBounds_toArray, List.set_cons_zero, List.set_cons_succ]
        refine rest_got (i := 6) (v := ?v102) rfl (by kernel_rfl) (by kernel_rfl) (by kernel_rfl) (fun _ _ _ h => h) (by rfl) ?y102 ?r102
        case y102 => (intro w9q hSwq; clear hSwq; go_simp; with_reducible rfl)
        try simp only [Act.put, List.setIfInBounds_toArray, List.set_cons_zero, List.set_cons_succ]
        refine rest_got (i := 7) (v := ?v103) rfl (by kernel_rfl) (by kernel_rfl) (by kernel_rfl) (fun _ _ _ h => h) (by rfl) ?y103 ?r103
        case y103 => (intro w9q hSwq; clear hSwq; go_simp; with_reducible rfl)
        try simp only [Act.put, List.setIfInBounds_toArray, List.set_cons_zero, List.set_cons_succ]
        refine rest_got (i := 8) (v := ?v104) rfl (by kernel_rfl) (by kernel_rfl) (by kernel_rfl) (fun _ _ _ h => h) (by rfl) ?y104 ?r104
        case y104 => (intro w9q hSwq; clear hSwq; go_simp; with_reducible rfl)
        try simp only [Act.put, List.setIfInBounds_toArray, List.set_cons_zero, List.set_cons_succ]
        refine rest_got (i := 9) (v := ?v105) rfl (by kernel_rfl) (by kernel_rfl) (by kernel_rfl) (fun _ _ _ h => h) (by rfl) ?y105 ?r105
        case y105 => (intro w9q hSwq; clear hSwq; go_simp; with_reducible rfl)
        try simp only [Act.put, List.setIfInBounds_toArray, List.set_cons_zero, List.set_cons_succ]
        refine rest_got (i := 10) (v := ?v106) rfl (by kernel_rfl) (by kernel_rfl) (by kernel_rfl) (fun _ _ _ h => h) (by rfl) ?y106 ?r106
        case y106 => (intro w9q hSwq; clear hSwq; go_simp; with_reducible rfl)
        try simp only [Act.put, List.setIfInBounds_toArray, List.set_cons_zero, List.set_cons_succ]
        refine rest_got (i := 11) (v := ?v107) rfl (by kernel_rfl) (by kernel_rfl) (by kernel_rfl) (fun _ _ _ h => h) (by rfl) ?y107 ?r107
        case y107 => ((intro w9' hm9'; have hc9' := Mod.cell hm9' CYB6.out (by first | exact List.not_mem_nil | assumption | (simp; done) | (simp; omega)); clear hm9'; go_simp; with_reducible rfl))
        try simp only [Act.put, List.setIfInBounds_toArray, List.set_cons_zero, List.set_cons_succ]
        refine rest_one (i := 12) (by kernel_rfl) rfl (by rfl) ?_
        go_wp2_with fail
        refine HLB6.out.mono ?_
        rintro e wB ⟨rfl, rfl⟩
        go_wp2_with fail
        refine back_to (K1 := []) (Mod.refl _ _) (by simp) ?_
        clear HLB6 CXB6 CYB6
        refine rest_got (i := 13) (v := ?v108) rfl (by kernel_rfl) (by kernel_rfl) (by kernel_rfl) (fun _ _ _ h => h) (by rfl) ?y108 ?r108
        case y108 => (intro w9q hSwq; clear hSwq; go_simp; with_reducible rfl)
        try simp only [Act.put, List.setIfInBounds_toArray, List.set_cons_zero, List.set_cons_succ]
        refine rest_done (by kernel_rfl) ?_ _
        have RB := Lib.hid (RA.out.mod0 NB.out)
        have MB := Lib.hid NB.out
        clear NB CXB CYB HLB
        cases blB with
        | true =>
          have HK2 : Hid (Sort.siftDown ltN hi first c (Sort.swp d1 fr fc) = D) := Lib.hid (by
            have := HK.out
            unfold siftK at this
            rw [hfr, hfc, if_pos HBB.out] at this
            exact this)
          clear HBB HK
          obtain ⟨xiS, hxiS⟩ : ∃ x, (d1)[fr]! = x := ⟨_, rfl⟩
          obtain ⟨xjS, hxjS⟩ : ∃ x, (d1)[fc]! = x := ⟨_, rfl⟩
          have HSIS : Hid ((d1)[fr]! = xiS) := Lib.hid hxiS
          have HSJS : Hid ((d1)[fc]! = xjS) := Lib.hid hxjS
          have HBIS : fr < (d1).size := by rw [HN.out]; omega
          have HBJS : fc < (d1).size := by rw [HN.out]; omega
          clear hxiS hxjS
          go_upto_region 6 with (fail)
          refine restu_start 21 [] [g] 24 #[false, false, false, false, false, false, false, false, false, false, false, false, false, false, false, false, false, false, false, false, false, false, false, false] rfl (by kernel_rfl) (by kernel_rfl) ?_
          intro vS nS
          have RvS := Lib.hid (RB.out.mod0 nS)
          have CiS := Lib.hid (RvS.out.cell HBIS HSIS.out)
          have CjS := Lib.hid (RvS.out.cell HBJS HSJS.out)
          have NvS := Lib.hid nS
          clear nS
          refine restu_got (i := 0) (v := ?v109) rfl (by kernel_rfl) (by kernel_rfl) (by kernel_rfl) (by rfl) (fun _ _ _ h => h) (by rfl) ?y109 ?r109
          case y109 => (intro w9q hSwq; clear hSwq; go_simp; with_reducible rfl)
          try simp only [Act.put, List.setIfInBounds_toArray, List.set_cons_zero, List.set_cons_succ]
          refine restu_got (i := 1) (v := ?v110) rfl (by kernel_rfl) (by kernel_rfl) (by kernel_rfl) (by rfl) (fun _ _ _ h => h) (by rfl) ?y110 ?r110
          case y110 => (intro w9q hSwq; clear hSwq; go_simp; with_reducible rfl)
          try simp only [Act.put, List.setIfInBounds_toArray, List.set_cons_zero, List.set_cons_succ]
          refine restu_got (i := 2) (v := ?v111) rfl (by kernel_rfl) (by kernel_rfl) (by kernel_rfl) (by rfl) (fun _ _ _ h => h) (by rfl) ?y111 ?r111
          case y111 => (intro w9q hSwq; clear hSwq; go_simp; with_reducible rfl)
          try simp only [Act.put, List.setIfInBounds_toArray, List.set_cons_zero, List.set_cons_succ]
          refine restu_got (i := 3) (v := ?v112) rfl (by kernel_rfl) (by kernel_rfl) (by kernel_rfl) (by rfl) (fun _ _ _ h => h) (by rfl) ?y112 ?r112
          case y112 => (intro w9q hSwq; clear hSwq; go_simp; with_reducible rfl)
          try simp only [Act.put, List.setIfInBounds_toArray, List.set_cons_zero, List.set_cons_succ]
          refine restu_got (i := 4) (v := ?v113) rfl (by kernel_rfl) (by kernel_rfl) (by kernel_rfl) (by rfl) (fun _ _ _ h => h) (by rfl) ?y113 ?r113
          case y113 => (intro w9q hSwq; clear hSwq; go_simp; with_reducible rfl)
          try simp only [Act.put, List.setIfInBounds_toArray, List.set_cons_zero, List.set_cons_succ]
          refine restu_got (i := 5) (v := ?v114) rfl (by kernel_rfl) (by kernel_rfl) (by kernel_rfl) (by rfl) (fun _ _ _ h => h) (by rfl) ?y114 ?r114
          case y114 => (intro w9q hSwq; clear hSwq; go_simp; with_reducible rfl)
          try simp only [Act.put, List.setIfInBounds_toArray, List.set_cons_zero, List.set_cons_succ]
          refine restu_got (i := 6) (v := ?v115) rfl (by kernel_rfl) (by kernel_rfl) (by kernel_rfl) (by rfl) (fun _ _ _ h => h) (by rfl) ?y115 ?r115
          case y115 => (intro w9q hSwq; clear hSwq; go_simp; with_reducible rfl)
          try simp only [Act.put, List.setIfInBounds_toArray, List.set_cons_zero, List.set_cons_succ]
          refine restu_got (i := 7) (v := ?v116) rfl (by kernel_rfl) (by kernel_rfl) (by kernel_rfl) (by rfl) (fun _ _ _ h => h) (by rfl) ?y116 ?r116
          case y116 => (intro w9q hSwq; clear hSwq; go_simp; with_reducible rfl)
          try simp only [Act.put, List.setIfInBounds_toArray, List.set_cons_zero, List.set_cons_succ]
          refine restu_got (i := 8) (v := ?v117) rfl (by kernel_rfl) (by kernel_rfl) (by kernel_rfl) (by rfl) (fun _ _ _ h => h) (by rfl) ?y117 ?r117
          case y117 => (intro w9q hSwq; clear hSwq; go_simp; with_reducible rfl)
          try simp only [Act.put, List.setIfInBounds_toArray, List.set_cons_zero, List.set_cons_succ]
          refine restu_got (i := 9) (v := ?v118) rfl (by kernel_rfl) (by kernel_rfl) (by kernel_rfl) (by rfl) (fun _ _ _ h => h) (by rfl) ?y118 ?r118
          case y118 => (intro w9q hSwq; clear hSwq; go_simp; with_reducible rfl)
          try simp only [Act.put, List.setIfInBounds_toArray, List.set_cons_zero, List.set_cons_succ]
          refine restu_got (i := 10) (v := ?v119) rfl (by kernel_rfl) (by kernel_rfl) (by kernel_rfl) (by rfl) (fun _ _ _ h => h) (by rfl) ?y119 ?r119
          case y119 => (intro w9q hSwq; clear hSwq; go_simp; with_reducible rfl)
          try simp only [Act.put, List.setIfInBounds_toArray, List.set_cons_zero, List.set_cons_succ]
          refine restu_got (i := 11) (v := ?v120) rfl (by kernel_rfl) (by kernel_rfl) (by kernel_rfl) (by rfl) (fun _ _ _ h => h) (by rfl) ?y120 ?r120
          case y120 => (intro w9q hSwq; clear hSwq; go_simp; with_reducible rfl)
          try simp only [Act.put, List.setIfInBounds_toArray, List.set_cons_zero, List.set_cons_succ]
          refine restu_got (i := 12) (v := ?v121) rfl (by kernel_rfl) (by kernel_rfl) (by kernel_rfl) (by rfl) (fun _ _ _ h => h) (by rfl) ?y121 ?r121
          case y121 => (intro w9q hSwq; clear hSwq; go_simp; with_reducible rfl)
          try simp only [Act.put, List.setIfInBounds_toArray, List.set_cons_zero, List.set_cons_succ]
          refine restu_early (i := 13) [20, 21, 22, 23] (v := ?v122) rfl (by kernel_rfl) (by kernel_rfl) (by kernel_rfl) (by rfl) (by kernel_rfl) (by rfl) (by kernel_rfl) (fun _ _ _ h => h) (by rfl) ?y122 ?r122
          case y122 => ((intro w9' hm9'; have hc9' := Mod.cell hm9' CjS.out (by first | exact List.not_mem_nil | assumption | (simp; done) | (simp; omega)); clear hm9'; go_simp; with_reducible rfl))
          try simp only [Act.put, List.setIfInBounds_toArray, List.set_cons_zero, List.set_cons_succ]
          refine restu_got (i := 14) (v := ?v123) rfl (by kernel_rfl) (by kernel_rfl) (by kernel_rfl) (by rfl) (fun _ _ _ h => h) (by rfl) ?y123 ?r123
          case y123 => (intro w9q hSwq; clear hSwq; go_simp; with_reducible rfl)
          try simp only [Act.put, List.setIfInBounds_toArray, List.set_cons_zero, List.set_cons_succ]
          refine restu_got (i := 15) (v := ?v124) rfl (by kernel_rfl) (by kernel_rfl) (by kernel_rfl) (by rfl) (fun _ _ _ h => h) (by rfl) ?y124 ?r124
          case y124 => (intro w9q hSwq; clear hSwq; go_simp; with_reducible rfl)
          try simp only [Act.put, List.setIfInBounds_toArray, List.set_cons_zero, List.set_cons_succ]
          refine restu_got (i := 16) (v := ?v125) rfl (by kernel_rfl) (by kernel_rfl) (by kernel_rfl) (by rfl) (fun _ _ _ h => h) (by rfl) ?y125 ?r125
          case y125 => (intro w9q hSwq; clear hSwq; go_simp; with_reducible rfl)
          try simp only [Act.put, List.setIfInBounds_toArray, List.set_cons_zero, List.set_cons_succ]
          refine restu_got (i := 17) (v := ?v126) rfl (by kernel_rfl) (by kernel_rfl) (by kernel_rfl) (by rfl) (fun _ _ _ h => h) (by rfl) ?y126 ?r126
          case y126 => (intro w9q hSwq; clear hSwq; go_simp; with_reducible rfl)
          try simp only [Act.put, List.setIfInBounds_toArray, List.set_cons_zero, List.set_cons_succ]
          refine restu_got (i := 18) (v := ?v127) rfl (by kernel_rfl) (by kernel_rfl) (by kernel_rfl) (by rfl) (fun _ _ _ h => h) (by rfl) ?y127 ?r127
          case y127 => (intro w9q hSwq; clear hSwq; go_simp; with_reducible rfl)
          try simp only [Act.put, List.setIfInBounds_toArray, List.set_cons_zero, List.set_cons_succ]
          refine restu_early (i := 19) [20, 21, 22, 23] (v := ?v128) rfl (by kernel_rfl) (by kernel_rfl) (by kernel_rfl) (by rfl) (by kernel_rfl) (by rfl) (by kernel_rfl) (fun _ _ _ h => h) (by rfl) ?y128 ?r128
          case y128 => ((intro w9' hm9'; have hc9' := Mod.cell hm9' CiS.out (by first | exact List.not_mem_nil | assumption | (simp; done) | (simp; omega)); clear hm9'; go_simp; with_reducible rfl))
          try simp only [Act.put, List.setIfInBounds_toArray, List.set_cons_zero, List.set_cons_succ]
          refine restu_got (i := 20) (v := ?v129) rfl (by kernel_rfl) (by kernel_rfl) (by kernel_rfl) (by rfl) (fun _ _ _ h => h) (by rfl) ?y129 ?r129
          case y129 => (intro w9q hSwq; clear hSwq; go_simp; with_reducible rfl)
          try simp only [Act.put, List.setIfInBounds_toArray, List.set_cons_zero, List.set_cons_succ]
          refine restu_one (i := 21) (by kernel_rfl) rfl (by rfl) ?_
          have ciS := (RvS.out.at' HBIS).1
          have fiS := (RvS.out.at' HBIS).2
          go_wp2_with fail
          have RaS := Lib.hid (RvS.out.set fr xjS)
          have naS : Mod [g] vS (vS.setCell ⟨g, fr, none⟩ (.int .u32 (xjS : Int))) := Mod.setCell _ _ _ (by simp)
          have NaS := Lib.hid (NvS.out.nil.trans' naS)
          have RbS := Lib.hid (RvS.out.swp HSIS.out HSJS.out)
          refine backm_to (K1 := [g]) (by kernel_rfl) naS (fun _ h _ => h) ?_
          clear naS ciS fiS CiS CjS NvS RvS
          refine rest_got (i := 22) (v := ?v130) rfl (by kernel_rfl) (by kernel_rfl) (by kernel_rfl) (fun _ _ _ h => h) (by rfl) ?y130 ?r130
          case y130 => (intro w9q hSwq; clear hSwq; go_simp; with_reducible rfl)
          try simp only [Act.put, List.setIfInBounds_toArray, List.set_cons_zero, List.set_cons_succ]
          refine rest_one (i := 23) (by kernel_rfl) rfl (by rfl) ?_
          have cjS := (RaS.out.at' (i := fc) (by rw [Array.size_setIfInBounds]; exact HBJS)).1
          have fjS := (RaS.out.at' (i := fc) (by rw [Array.size_setIfInBounds]; exact HBJS)).2
          go_wp2_with fail
          have nbS : Mod [g] (vS.setCell ⟨g, fr, none⟩ (.int .u32 (xjS : Int))) ((vS.setCell ⟨g, fr, none⟩ (.int .u32 (xjS : Int))).setCell ⟨g, fc, none⟩ (.int .u32 (xiS : Int))) := Mod.setCell _ _ _ (by simp)
          have MS := Lib.hid (NaS.out.trans' nbS)
          have RS := Lib.hid RbS.out
          refine back_to (K1 := []) nbS (by simp) ?_
          clear nbS cjS fjS NaS RaS RbS HSIS HSJS
          refine rest_done (by kernel_rfl) ?_ _
          go_wp2
          go_roundw
          case rel => exact ⟨c, Sort.swp d1 fr fc, by omega, by first | rfl | (congr 1; omega), RS.out, by rw [size_swp, HN.out], HK2.out, ((HM.out.trans0 MA.out).trans0 MB.out).trans' MS.out⟩
          case measure => simp [RowKit.intOf]; omega
        | false =>
          have hF : d1 = D := by
            have := HK.out
            unfold siftK at this
            rw [hfr, hfc, HBB.out] at this
            exact this
          subst hF
          go_wp2

          first | go_end0 | (refine bodyPost_ret (results_none rfl _ _ _) rfl ?_)
          exact ⟨rfl, RB.out, (HM.out.trans0 MA.out).trans0 MB.out⟩
    · have DG0 : decide (hi ≤ c) = true := decide_eq_true (by omega)
      have hF : d1 = D := by rw [← HD.out, sift_end (by omega)]
      subst hF
      go_wp2
      first | go_end0 | (refine bodyPost_ret (results_none rfl _ _ _) rfl ?_)
      exact ⟨rfl, HR.out, HM.out⟩
end Go.Proofs.Ytgneigdcgfiooaa
/- heapSortOrdered, reverseRangeOrdered at uint32. -/
namespace Go.Proofs.Ytgneigdcgfiooaa
open Go Go.RowKit Go.Lib

theorem build_go {hi first k : Nat} {d : Array Nat} : Sort.heapBuild ltN hi first (k + 1) d = Sort.heapBuild ltN hi first k (Sort.siftDown ltN hi first k d) := rfl
theorem pop_go {first k : Nat} {d : Array Nat} : Sort.heapPop ltN first (k + 1) d = Sort.heapPop ltN first k (Sort.siftDown ltN k first 0 (Sort.swp d first (first + k))) := rfl
theorem rev_go {i j : Nat} {d : Array Nat} (h : i < j) : Sort.reverseLoop i j d = Sort.reverseLoop (i + 1) (j - 1) (Sort.swp d i j) := by rw [Sort.reverseLoop, if_pos h]
theorem rev_stop {i j : Nat} {d : Array Nat} (h : ¬ i < j) : Sort.reverseLoop i j d = d := by rw [Sort.reverseLoop, if_neg h]
theorem sift_size (hi first : Nat) : ∀ (m root : Nat) (d : Array Nat), hi - root ≤ m → (Sort.siftDown ltN hi first root d).size = d.size := by
  intro m
  induction m with
  | zero => intro root d h; rw [sift_end (by omega)]
  | succ m ih =>
    intro root d h
    by_cases h0 : hi ≤ 2 * root + 1
    · rw [sift_end h0]
    · have hk : ∀ k, root < k → (siftK hi first root k d).size = d.size := fun k hk => by
        unfold siftK
        split
        · rw [ih k _ (by omega), size_swp]
        · rfl
      by_cases h1 : 2 * root + 2 < hi
      · cases hl : ltN d[first + (2 * root + 1)]! d[first + (2 * root + 1) + 1]! with
        | true => rw [sift_right h1 hl]; exact hk _ (by omega)
        | false => rw [sift_left (by omega) (.inr hl)]; exact hk _ (by omega)
      · rw [sift_left (by omega) (.inl h1)]; exact hk _ (by omega)
set_option maxRecDepth 100000 in
set_option maxHeartbeats 16000000 in
theorem heap_any (g cap n a b : Nat) (d : Array Nat) (w : World) (hr : Row w g cap d) (hn : d.size = n) (hab : a ≤ b) (hb : b ≤ n) (hd : n ≤ 1000000) :
    Calls Try.prog 36 #[.slice (some ⟨g, 0, none⟩) n cap, .int .i64 (a : Int), .int .i64 (b : Int)] w (SortR w g cap (Sort.heapSort ltN d a b)) := by
  have HR0 := Lib.hid hr
  obtain ⟨hi, hhi⟩ : ∃ x, b - a = x := ⟨_, rfl⟩
  obtain ⟨h2, hh2⟩ : ∃ x, (hi - 1) / 2 = x := ⟨_, rfl⟩
  obtain ⟨D1, hD1⟩ : ∃ x, Sort.heapBuild ltN hi a (h2 + 1) d = x := ⟨_, rfl⟩
  obtain ⟨D, hD⟩ : ∃ x, Sort.heapPop ltN a hi D1 = x := ⟨_, rfl⟩
  have hDD : Sort.heapSort ltN d a b = D := by
    unfold Sort.heapSort
    rw [hhi, hh2, hD1, hD]
  rw [hDD]
  have HD1 := Lib.hid hD1
  have HD := Lib.hid hD
  have HN0 := Lib.hid hn
  have HS : Hid (∀ (v : World) (lo hi2 : Nat) (d2 : Array Nat), Row v g cap d2 → d2.size = n → lo ≤ 1000000 → a + hi2 ≤ n → Calls Try.prog 46 #[.slice (some ⟨g, 0, none⟩) n cap, .int .i64 (lo : Int), .int .i64 (hi2 : Int), .int .i64 (a : Int)] v (SortR v g cap (Sort.siftDown ltN hi2 a lo d2))) := Lib.hid fun v lo hi2 d2 h1 h2 h3 h4 => sift_any g cap n lo hi2 a d2 v h1 h2 h3 h4 hd
  unfold SortR at HS ⊢
  have e0 : (b : Int) - (a : Int) = (hi : Int) := by omega
  have e1 : Int.tdiv ((hi : Int) - 1) 2 = ((h2 : Nat) : Int) := by
    rcases Nat.eq_zero_or_pos hi with h | h
    · subst h; subst hh2; rfl
    · rw [show (hi : Int) - 1 = ((hi - 1 : Nat) : Int) by omega]
      exact congrArg Int.ofNat hh2
  clear hr hn hD1 hD hDD
  go_enter Try.func36, Try.ntmps36
  go_wp2
  go_loopw [9] (fun s9 wr => ∃ (k : Nat) (d1 : Array Nat), k ≤ h2 + 1 ∧ s9 = .int .i64 ((k : Int) - 1) ∧ Row wr g cap d1 ∧ d1.size = n ∧ Sort.heapBuild ltN hi a k d1 = D1 ∧ Mod [g] w wr) (fun s9 _ => (RowKit.intOf s9 + 1).toNat)
  case atStart => exact ⟨h2 + 1, d, Nat.le_refl _, by first | rfl | (congr 1; omega), HR0.out, HN0.out, HD1.out, Mod.refl _ _⟩
  case round =>
    obtain ⟨k, d1, hk, rfl, hR, hn, hD, hm⟩ := hrel
    have HR := Lib.hid hR
    have HN := Lib.hid hn
    have HDa := Lib.hid hD
    have HM := Lib.hid hm
    clear hR hn hD hm
    by_cases hk0 : 0 < k
    · obtain ⟨i, rfl⟩ : ∃ i, k = i + 1 := ⟨k - 1, by omega⟩
      have ei : ((i + 1 : Nat) : Int) - 1 = (i : Int) := by omega
      rw [ei]
      have HC := Lib.hid (HS.out wr i hi d1 HR.out HN.out (by omega) (by omega))
      have HSZ : Hid ((Sort.siftDown ltN hi a i d1).size = n) := Lib.hid (by rw [sift_size hi a _ i d1 (Nat.le_refl _), HN.out])
      have DG : decide ((0 : Int) ≤ (i : Int)) = true := decide_eq_true (by omega)
      go_wp2_with fail
      refine HC.out.mono ?_
      rintro e w2 ⟨rfl, hR2, hm2⟩
      have HR2 := Lib.hid hR2
      have HM2 := Lib.hid (HM.out.trans' hm2)
      clear hR2 hm2
      go_wp2
      go_roundw
      case rel => exact ⟨i, _, by omega, by first | rfl | (congr 1; omega), HR2.out, HSZ.out, HDa.out, HM2.out⟩
      case measure => first | (simp [RowKit.intOf]; done) | (simp [RowKit.intOf]; omega)
    · obtain rfl : k = 0 := by omega
      have hF : d1 = D1 := HDa.out
      subst hF
      clear HDa HR0 HN0 HD1
      rw [show ((0 : Nat) : Int) - 1 = -1 from rfl]
      go_wp2
      go_loopw [10] (fun s10 wq => ∃ (k : Nat) (d2 : Array Nat), k ≤ hi ∧ s10 = .int .i64 ((k : Int) - 1) ∧ Row wq g cap d2 ∧ d2.size = n ∧ Sort.heapPop ltN a k d2 = D ∧ Mod [g] w wq) (fun s10 _ => (RowKit.intOf s10 + 1).toNat)
      case atStart => exact ⟨hi, d1, Nat.le_refl _, by first | rfl | (congr 1; omega), HR.out, HN.out, HD.out, HM.out⟩
      case round =>
        rename World => wq
        obtain ⟨k, d2, hk, rfl, hR, hn, hD, hm⟩ := hrel
        have HR2 := Lib.hid hR
        have HN2 := Lib.hid hn
        have HDb := Lib.hid hD
        have HM2 := Lib.hid hm
        clear hR hn hD hm
        by_cases hk0 : 0 < k
        · obtain ⟨i, rfl⟩ : ∃ i, k = i + 1 := ⟨k - 1, by omega⟩
          have ei : ((i + 1 : Nat) : Int) - 1 = (i : Int) := by omega
          rw [ei]
          have DG : decide ((0 : Int) ≤ (i : Int)) = true := decide_eq_true (by omega)
          obtain ⟨ai, hai⟩ : ∃ x, a + i = x := ⟨_, rfl⟩
          have eai : IntKind.i64.wrap ((a : Int) + (i : Int)) = (ai : Int) := by rw [show (a : Int) + (i : Int) = (ai : Int) by omega]; exact IntWalk.i64_in _ (by omega)
          have Ba : (a : Int) < (n : Int) := by omega
          have Bai : (ai : Int) < (n : Int) := by omega
          have HDc : Hid (Sort.heapPop ltN a i (Sort.siftDown ltN i a 0 (Sort.swp d2 a ai)) = D) := Lib.hid (by rw [← hai]; exact HDb.out)
          have HSZ : Hid ((Sort.siftDown ltN i a 0 (Sort.swp d2 a ai)).size = n) := Lib.hid (by rw [sift_size i a _ 0 _ (Nat.le_refl _), size_swp, HN2.out])
          obtain ⟨xiS, hxiS⟩ : ∃ x, (d2)[a]! = x := ⟨_, rfl⟩
          obtain ⟨xjS, hxjS⟩ : ∃ x, (d2)[ai]! = x := ⟨_, rfl⟩
          have HSIS : Hid ((d2)[a]! = xiS) := Lib.hid hxiS
          have HSJS : Hid ((d2)[ai]! = xjS) := Lib.hid hxjS
          have HBIS : a < (d2).size := by rw [HN2.out]; omega
          have HBJS : ai < (d2).size := by rw [HN2.out]; omega
          clear hxiS hxjS
          go_upto_region 10 with (fail)
          refine restu_start 17 [] [g] 20 #[false, false, false, false, false, false, false, false, false, false, false, false, false, false, false, false, false, false, false, false] rfl (by kernel_rfl) (by kernel_rfl) ?_
          intro vS nS
          have RvS := Lib.hid (HR2.out.mod0 nS)
          have CiS := Lib.hid (RvS.out.cell HBIS HSIS.out)
          have CjS := Lib.hid (RvS.out.cell HBJS HSJS.out)
          have NvS := Lib.hid nS
          clear nS
          refine restu_got (i := 0) (v := ?v1) rfl (by kernel_rfl) (by kernel_rfl) (by kernel_rfl) (by rfl) (fun _ _ _ h => h) (by rfl) ?y1 ?r1
          case y1 => (intro w9q hSwq; clear hSwq; go_simp; with_reducible rfl)
          try simp only [Act.put, List.setIfInBounds_toArray, List.set_cons_zero, List.set_cons_succ]
          refine restu_got (i := 1) (v := ?v2) rfl (by kernel_rfl) (by kernel_rfl) (by kernel_rfl) (by rfl) (fun _ _ _ h => h) (by rfl) ?y2 ?r2
          case y2 => (intro w9q hSwq; clear hSwq; go_simp; with_reducible rfl)
          try simp only [Act.put, List.setIfInBounds_toArray, List.set_cons_zero, List.set_cons_succ]
          refine restu_got (i := 2) (v := ?v3) rfl (by kernel_rfl) (by kernel_rfl) (by kernel_rfl) (by rfl) (fun _ _ _ h => h) (by rfl) ?y3 ?r3
          case y3 => (intro w9q hSwq; clear hSwq; go_simp; with_reducible rfl)
          try simp only [Act.put, List.setIfInBounds_toArray, List.set_cons_zero, List.set_cons_succ]
          refine restu_got (i := 3) (v := ?v4) rfl (by kernel_rfl) (by kernel_rfl) (by kernel_rfl) (by rfl) (fun _ _ _ h => h) (by rfl) ?y4 ?r4
          case y4 => (intro w9q hSwq; clear hSwq; go_simp; with_reducible rfl)
          try simp only [Act.put, List.setIfInBounds_toArray, List.set_cons_zero, List.set_cons_succ]
          refine restu_got (i := 4) (v := ?v5) rfl (by kernel_rfl) (by kernel_rfl) (by kernel_rfl) (by rfl) (fun _ _ _ h => h) (by rfl) ?y5 ?r5
          case y5 => (intro w9q hSwq; clear hSwq; go_simp; with_reducible rfl)
          try simp only [Act.put, List.setIfInBounds_toArray, List.set_cons_zero, List.set_cons_succ]
          refine restu_got (i := 5) (v := ?v6) rfl (by kernel_rfl) (by kernel_rfl) (by kernel_rfl) (by rfl) (fun _ _ _ h => h) (by rfl) ?y6 ?r6
          case y6 => (intro w9q hSwq; clear hSwq; go_simp; with_reducible rfl)
          try simp only [Act.put, List.setIfInBounds_toArray, List.set_cons_zero, List.set_cons_succ]
          refine restu_got (i := 6) (v := ?v7) rfl (by kernel_rfl) (by kernel_rfl) (by kernel_rfl) (by rfl) (fun _ _ _ h => h) (by rfl) ?y7 ?r7
          case y7 => (intro w9q hSwq; clear hSwq; go_simp; with_reducible rfl)
          try simp only [Act.put, List.setIfInBounds_toArray, List.set_cons_zero, List.set_cons_succ]
          refine restu_got (i := 7) (v := ?v8) rfl (by kernel_rfl) (by kernel_rfl) (by kernel_rfl) (by rfl) (fun _ _ _ h => h) (by rfl) ?y8 ?r8
          case y8 => (intro w9q hSwq; clear hSwq; go_simp; with_reducible rfl)
          try simp only [Act.put, List.setIfInBounds_toArray, List.set_cons_zero, List.set_cons_succ]
          refine restu_got (i := 8) (v := ?v9) rfl (by kernel_rfl) (by kernel_rfl) (by kernel_rfl) (by rfl) (fun _ _ _ h => h) (by rfl) ?y9 ?r9
          case y9 => (intro w9q hSwq; clear hSwq; go_simp; with_reducible rfl)
          try simp only [Act.put, List.setIfInBounds_toArray, List.set_cons_zero, List.set_cons_succ]
          refine restu_got (i := 9) (v := ?v10) rfl (by kernel_rfl) (by kernel_rfl) (by kernel_rfl) (by rfl) (fun _ _ _ h => h) (by rfl) ?y10 ?r10
          case y10 => (intro w9q hSwq; clear hSwq; go_simp; with_reducible rfl)
          try simp only [Act.put, List.setIfInBounds_toArray, List.set_cons_zero, List.set_cons_succ]
          refine restu_got (i := 10) (v := ?v11) rfl (by kernel_rfl) (by kernel_rfl) (by kernel_rfl) (by rfl) (fun _ _ _ h => h) (by rfl) ?y11 ?r11
          case y11 => (intro w9q hSwq; clear hSwq; go_simp; with_reducible rfl)
          try simp only [Act.put, List.setIfInBounds_toArray, List.set_cons_zero, List.set_cons_succ]
          refine restu_early (i := 11) [16, 17, 18, 19] (v := ?v12) rfl (by kernel_rfl) (by kernel_rfl) (by kernel_rfl) (by rfl) (by kernel_rfl) (by rfl) (by kernel_rfl) (fun _ _ _ h => h) (by rfl) ?y12 ?r12
          case y12 => ((intro w9' hm9'; have hc9' := Mod.cell hm9' CjS.out (by first | exact List.not_mem_nil | assumption | (simp; done) | (simp; omega)); clear hm9'; go_simp; with_reducible rfl))
          try simp only [Act.put, List.setIfInBounds_toArray, List.set_cons_zero, List.set_cons_succ]
          refine restu_got (i := 12) (v := ?v13) rfl (by kernel_rfl) (by kernel_rfl) (by kernel_rfl) (by rfl) (fun _ _ _ h => h) (by rfl) ?y13 ?r13
          case y13 => (intro w9q hSwq; clear hSwq; go_simp; with_reducible rfl)
          try simp only [Act.put, List.setIfInBounds_toArray, List.set_cons_zero, List.set_cons_succ]
          refine restu_got (i := 13) (v := ?v14) rfl (by kernel_rfl) (by kernel_rfl) (by kernel_rfl) (by rfl) (fun _ _ _ h => h) (by rfl) ?y14 ?r14
          case y14 => (intro w9q hSwq; clear hSwq; go_simp; with_reducible rfl)
          try simp only [Act.put, List.setIfInBounds_toArray, List.set_cons_zero, List.set_cons_succ]
          refine restu_got (i := 14) (v := ?v15) rfl (by kernel_rfl) (by kernel_rfl) (by kernel_rfl) (by rfl) (fun _ _ _ h => h) (by rfl) ?y15 ?r15
          case y15 => (intro w9q hSwq; clear hSwq; go_simp; with_reducible rfl)
          try simp only [Act.put, List.setIfInBounds_toArray, List.set_cons_zero, List.set_cons_succ]
          refine restu_early (i := 15) [16, 17, 18, 19] (v := ?v16) rfl (by kernel_rfl) (by kernel_rfl) (by kernel_rfl) (by rfl) (by kernel_rfl) (by rfl) (by kernel_rfl) (fun _ _ _ h => h) (by rfl) ?y16 ?r16
          case y16 => ((intro w9' hm9'; have hc9' := Mod.cell hm9' CiS.out (by first | exact List.not_mem_nil | assumption | (simp; done) | (simp; omega)); clear hm9'; go_simp; with_reducible rfl))
          try simp only [Act.put, List.setIfInBounds_toArray, List.set_cons_zero, List.set_cons_succ]
          refine restu_got (i := 16) (v := ?v17) rfl (by kernel_rfl) (by kernel_rfl) (by kernel_rfl) (by rfl) (fun _ _ _ h => h) (by rfl) ?y17 ?r17
          case y17 => (intro w9q hSwq; clear hSwq; go_simp; with_reducible rfl)
          try simp only [Act.put, List.setIfInBounds_toArray, List.set_cons_zero, List.set_cons_succ]
          refine restu_one (i := 17) (by kernel_rfl) rfl (by rfl) ?_
          have ciS := (RvS.out.at' HBIS).1
          have fiS := (RvS.out.at' HBIS).2
          go_wp2_with fail
          have RaS := Lib.hid (RvS.out.set a xjS)
          have naS : Mod [g] vS (vS.setCell ⟨g, a, none⟩ (.int .u32 (xjS : Int))) := Mod.setCell _ _ _ (by simp)
          have NaS := Lib.hid (NvS.out.nil.trans' naS)
          have RbS := Lib.hid (RvS.out.swp HSIS.out HSJS.out)
          refine backm_to (K1 := [g]) (by kernel_rfl) naS (fun _ h _ => h) ?_
          clear naS ciS fiS CiS CjS NvS RvS
          refine rest_got (i := 18) (v := ?v18) rfl (by kernel_rfl) (by kernel_rfl) (by kernel_rfl) (fun _ _ _ h => h) (by rfl) ?y18 ?r18
          case y18 => (intro w9q hSwq; clear hSwq; go_simp; with_reducible rfl)
          try simp only [Act.put, List.setIfInBounds_toArray, List.set_cons_zero, List.set_cons_succ]
          refine rest_one (i := 19) (by kernel_rfl) rfl (by rfl) ?_
          have cjS := (RaS.out.at' (i := ai) (by rw [Array.size_setIfInBounds]; exact HBJS)).1
          have fjS := (RaS.out.at' (i := ai) (by rw [Array.size_setIfInBounds]; exact HBJS)).2
          go_wp2_with fail
          have nbS : Mod [g] (vS.setCell ⟨g, a, none⟩ (.int .u32 (xjS : Int))) ((vS.setCell ⟨g, a, none⟩ (.int .u32 (xjS : Int))).setCell ⟨g, ai, none⟩ (.int .u32 (xiS : Int))) := Mod.setCell _ _ _ (by simp)
          have MS := Lib.hid (NaS.out.trans' nbS)
          have RS := Lib.hid RbS.out
          refine back_to (K1 := []) nbS (by simp) ?_
          clear nbS cjS fjS NaS RaS RbS HSIS HSJS
          refine rest_done (by kernel_rfl) ?_ _
          obtain ⟨wS, hwS⟩ : ∃ x, (vS.setCell ⟨g, a, none⟩ (.int .u32 (xjS : Int))).setCell ⟨g, ai, none⟩ (.int .u32 (xiS : Int)) = x := ⟨_, rfl⟩
          rw [hwS] at RS MS ⊢
          clear hwS
          have HC := Lib.hid (HS.out wS 0 i (Sort.swp d2 a ai) RS.out (by rw [size_swp, HN2.out]) (by omega) (by omega))
          go_wp2_with fail
          refine HC.out.mono ?_
          rintro e w3 ⟨rfl, hR3, hm3⟩
          have HR3 := Lib.hid hR3
          have HM3 := Lib.hid ((HM2.out.trans' MS.out).trans' hm3)
          clear hR3 hm3
          go_wp2
          go_roundw
          case rel => exact ⟨i, _, by omega, by first | rfl | (congr 1; omega), HR3.out, HSZ.out, HDc.out, HM3.out⟩
          case measure => first | (simp [RowKit.intOf]; done) | (simp [RowKit.intOf]; omega)
        · obtain rfl : k = 0 := by omega
          have hF : d2 = D := HDb.out
          subst hF
          go_wp2
          first | go_end0 | (refine bodyPost_ret (results_none rfl _ _ _) rfl ?_)
          exact ⟨rfl, HR2.out, HM2.out⟩
set_option maxRecDepth 100000 in
set_option maxHeartbeats 16000000 in
theorem rev_any (g cap n a b : Nat) (d : Array Nat) (w : World) (hr : Row w g cap d) (hn : d.size = n) (hab : a < b) (hb : b ≤ n) (hd : n ≤ 1000000) :
    Calls Try.prog 39 #[.slice (some ⟨g, 0, none⟩) n cap, .int .i64 (a : Int), .int .i64 (b : Int)] w (SortR w g cap (Sort.reverseRange d a b)) := by
  have HR0 := Lib.hid hr
  obtain ⟨b1, hb1⟩ : ∃ x, b - 1 = x := ⟨_, rfl⟩
  obtain ⟨D, hD⟩ : ∃ x, Sort.reverseLoop a b1 d = x := ⟨_, rfl⟩
  have hDD : Sort.reverseRange d a b = D := by
    unfold Sort.reverseRange
    rw [hb1, hD]
  rw [hDD]
  have HD := Lib.hid hD
  have HN0 := Lib.hid hn
  unfold SortR
  have e0 : (b : Int) - 1 = (b1 : Int) := by omega
  clear hr hn hD hDD
  go_enter Try.func39, Try.ntmps39
  go_wp2
  go_loopw [6, 7] (fun s6 s7 wr => ∃ (i j : Nat) (d1 : Array Nat), i ≤ n ∧ j < n ∧ s6 = .int .i64 (i : Int) ∧ s7 = .int .i64 (j : Int) ∧ Row wr g cap d1 ∧ d1.size = n ∧ Sort.reverseLoop i j d1 = D ∧ Mod [g] w wr) (fun _ s7 _ => (RowKit.intOf s7).toNat)
  case atStart => exact ⟨a, b1, d, by omega, by omega, rfl, by first | rfl | (congr 1; omega), HR0.out, HN0.out, HD.out, Mod.refl _ _⟩
  case round =>
    obtain ⟨i, j, d1, hi, hj, rfl, rfl, hR, hn, hD, hm⟩ := hrel
    have HR := Lib.hid hR
    have HN := Lib.hid hn
    have HDa := Lib.hid hD
    have HM := Lib.hid hm
    clear hR hn hD hm
    by_cases hij : i < j
    · have Bi : (i : Int) < (n : Int) := by omega
      have Bj : (j : Int) < (n : Int) := by omega
      have HDc : Hid (Sort.reverseLoop (i + 1) (j - 1) (Sort.swp d1 i j) = D) := Lib.hid (by rw [← rev_go hij]; exact HDa.out)
      obtain ⟨xiS, hxiS⟩ : ∃ x, (d1)[i]! = x := ⟨_, rfl⟩
      obtain ⟨xjS, hxjS⟩ : ∃ x, (d1)[j]! = x := ⟨_, rfl⟩
      have HSIS : Hid ((d1)[i]! = xiS) := Lib.hid hxiS
      have HSJS : Hid ((d1)[j]! = xjS) := Lib.hid hxjS
      have HBIS : i < (d1).size := by rw [HN.out]; omega
      have HBJS : j < (d1).size := by rw [HN.out]; omega
      clear hxiS hxjS
      go_upto_region 3 with (fail)
      refine restu_start 13 [] [g] 16 #[false, false, false, false, false, false, false, false, false, false, false, false, false, false, false, false] rfl (by kernel_rfl) (by kernel_rfl) ?_
      intro vS nS
      have RvS := Lib.hid (HR.out.mod0 nS)
      have CiS := Lib.hid (RvS.out.cell HBIS HSIS.out)
      have CjS := Lib.hid (RvS.out.cell HBJS HSJS.out)
      have NvS := Lib.hid nS
      clear nS
      refine restu_got (i := 0) (v := ?v19) rfl (by kernel_rfl) (by kernel_rfl) (by kernel_rfl) (by rfl) (fun _ _ _ h => h) (by rfl) ?y19 ?r19
      case y19 => (intro w9q hSwq; clear hSwq; go_simp; with_reducible rfl)
      try simp only [Act.put, List.setIfInBounds_toArray, List.set_cons_zero, List.set_cons_succ]
      refine restu_got (i := 1) (v := ?v20) rfl (by kernel_rfl) (by kernel_rfl) (by kernel_rfl) (by rfl) (fun _ _ _ h => h) (by rfl) ?y20 ?r20
      case y20 => (intro w9q hSwq; clear hSwq; go_simp; with_reducible rfl)
      try simp only [Act.put, List.setIfInBounds_toArray, List.set_cons_zero, List.set_cons_succ]
      refine restu_got (i := 2) (v := ?v21) rfl (by kernel_rfl) (by kernel_rfl) (by kernel_rfl) (by rfl) (fun _ _ _ h => h) (by rfl) ?y21 ?r21
      case y21 => (intro w9q hSwq; clear hSwq; go_simp; with_reducible rfl)
      try simp only [Act.put, List.setIfInBounds_toArray, List.set_cons_zero, List.set_cons_succ]
      refine restu_got (i := 3) (v := ?v22) rfl (by kernel_rfl) (by kernel_rfl) (by kernel_rfl) (by rfl) (fun _ _ _ h => h) (by rfl) ?y22 ?r22
      case y22 => (intro w9q hSwq; clear hSwq; go_simp; with_reducible rfl)
      try simp only [Act.put, List.setIfInBounds_toArray, List.set_cons_zero, List.set_cons_succ]
      refine restu_got (i := 4) (v := ?v23) rfl (by kernel_rfl) (by kernel_rfl) (by kernel_rfl) (by rfl) (fun _ _ _ h => h) (by rfl) ?y23 ?r23
      case y23 => (intro w9q hSwq; clear hSwq; go_simp; with_reducible rfl)
      try simp only [Act.put, List.setIfInBounds_toArray, List.set_cons_zero, List.set_cons_succ]
      refine restu_got (i := 5) (v := ?v24) rfl (by kernel_rfl) (by kernel_rfl) (by kernel_rfl) (by rfl) (fun _ _ _ h => h) (by rfl) ?y24 ?r24
      case y24 => (intro w9q hSwq; clear hSwq; go_simp; with_reducible rfl)
      try simp only [Act.put, List.setIfInBounds_toArray, List.set_cons_zero, List.set_cons_succ]
      refine restu_got (i := 6) (v := ?v25) rfl (by kernel_rfl) (by kernel_rfl) (by kernel_rfl) (by rfl) (fun _ _ _ h => h) (by rfl) ?y25 ?r25
      case y25 => (intro w9q hSwq; clear hSwq; go_simp; with_reducible rfl)
      try simp only [Act.put, List.setIfInBounds_toArray, List.set_cons_zero, List.set_cons_succ]
      refine restu_early (i := 7) [12, 13, 14, 15] (v := ?v26) rfl (by kernel_rfl) (by kernel_rfl) (by kernel_rfl) (by rfl) (by kernel_rfl) (by rfl) (by kernel_rfl) (fun _ _ _ h => h) (by rfl) ?y26 ?r26
      case y26 => ((intro w9' hm9'; have hc9' := Mod.cell hm9' CjS.out (by first | exact List.not_mem_nil | assumption | (simp; done) | (simp; omega)); clear hm9'; go_simp; with_reducible rfl))
      try simp only [Act.put, List.setIfInBounds_toArray, List.set_cons_zero, List.set_cons_succ]
      refine restu_got (i := 8) (v := ?v27) rfl (by kernel_rfl) (by kernel_rfl) (by kernel_rfl) (by rfl) (fun _ _ _ h => h) (by rfl) ?y27 ?r27
      case y27 => (intro w9q hSwq; clear hSwq; go_simp; with_reducible rfl)
      try simp only [Act.put, List.setIfInBounds_toArray, List.set_cons_zero, List.set_cons_succ]
      refine restu_got (i := 9) (v := ?v28) rfl (by kernel_rfl) (by kernel_rfl) (by kernel_rfl) (by rfl) (fun _ _ _ h => h) (by rfl) ?y28 ?r28
      case y28 => (intro w9q hSwq; clear hSwq; go_simp; with_reducible rfl)
      try simp only [Act.put, List.setIfInBounds_toArray, List.set_cons_zero, List.set_cons_succ]
      refine restu_got (i := 10) (v := ?v29) rfl (by kernel_rfl) (by kernel_rfl) (by kernel_rfl) (by rfl) (fun _ _ _ h => h) (by rfl) ?y29 ?r29
      case y29 => (intro w9q hSwq; clear hSwq; go_simp; with_reducible rfl)
      try simp only [Act.put, List.setIfInBounds_toArray, List.set_cons_zero, List.set_cons_succ]
      refine restu_early (i := 11) [12, 13, 14, 15] (v := ?v30) rfl (by kernel_rfl) (by kernel_rfl) (by kernel_rfl) (by rfl) (by kernel_rfl) (by rfl) (by kernel_rfl) (fun _ _ _ h => h) (by rfl) ?y30 ?r30
      case y30 => ((intro w9' hm9'; have hc9' := Mod.cell hm9' CiS.out (by first | exact List.not_mem_nil | assumption | (simp; done) | (simp; omega)); clear hm9'; go_simp; with_reducible rfl))
      try simp only [Act.put, List.setIfInBounds_toArray, List.set_cons_zero, List.set_cons_succ]
      refine restu_got (i := 12) (v := ?v31) rfl (by kernel_rfl) (by kernel_rfl) (by kernel_rfl) (by rfl) (fun _ _ _ h => h) (by rfl) ?y31 ?r31
      case y31 => (intro w9q hSwq; clear hSwq; go_simp; with_reducible rfl)
      try simp only [Act.put, List.setIfInBounds_toArray, List.set_cons_zero, List.set_cons_succ]
      refine restu_one (i := 13) (by kernel_rfl) rfl (by rfl) ?_
      have ciS := (RvS.out.at' HBIS).1
      have fiS := (RvS.out.at' HBIS).2
      go_wp2_with fail
      have RaS := Lib.hid (RvS.out.set i xjS)
      have naS : Mod [g] vS (vS.setCell ⟨g, i, none⟩ (.int .u32 (xjS : Int))) := Mod.setCell _ _ _ (by simp)
      have NaS := Lib.hid (NvS.out.nil.trans' naS)
      have RbS := Lib.hid (RvS.out.swp HSIS.out HSJS.out)
      refine backm_to (K1 := [g]) (by kernel_rfl) naS (fun _ h _ => h) ?_
      clear naS ciS fiS CiS CjS NvS RvS
      refine rest_got (i := 14) (v := ?v32) rfl (by kernel_rfl) (by kernel_rfl) (by kernel_rfl) (fun _ _ _ h => h) (by rfl) ?y32 ?r32
      case y32 => (intro w9q hSwq; clear hSwq; go_simp; with_reducible rfl)
      try simp only [Act.put, List.setIfInBounds_toArray, List.set_cons_zero, List.set_cons_succ]
      refine rest_one (i := 15) (by kernel_rfl) rfl (by rfl) ?_
      have cjS := (RaS.out.at' (i := j) (by rw [Array.size_setIfInBounds]; exact HBJS)).1
      have fjS := (RaS.out.at' (i := j) (by rw [Array.size_setIfInBounds]; exact HBJS)).2
      go_wp2_with fail
      have nbS : Mod [g] (vS.setCell ⟨g, i, none⟩ (.int .u32 (xjS : Int))) ((vS.setCell ⟨g, i, none⟩ (.int .u32 (xjS : Int))).setCell ⟨g, j, none⟩ (.int .u32 (xiS : Int))) := Mod.setCell _ _ _ (by simp)
      have MS := Lib.hid (NaS.out.trans' nbS)
      have RS := Lib.hid RbS.out
      refine back_to (K1 := []) nbS (by simp) ?_
      clear nbS cjS fjS NaS RaS RbS HSIS HSJS
      refine rest_done (by kernel_rfl) ?_ _
      go_wp2
      go_roundw
      case rel => exact ⟨i + 1, j - 1, Sort.swp d1 i j, by omega, by omega, by first | rfl | go_num, by first | rfl | (congr 1; omega), RS.out, by rw [size_swp, HN.out], HDc.out, HM.out.trans' MS.out⟩
      case measure => first | (simp [RowKit.intOf]; done) | (simp [RowKit.intOf]; omega)
    · have hF : d1 = D := by rw [← HDa.out, rev_stop hij]
      subst hF
      go_wp2
      first | go_end0 | (refine bodyPost_ret (results_none rfl _ _ _) rfl ?_)
      exact ⟨rfl, HR.out, HM.out⟩
end Go.Proofs.Ytgneigdcgfiooaa
