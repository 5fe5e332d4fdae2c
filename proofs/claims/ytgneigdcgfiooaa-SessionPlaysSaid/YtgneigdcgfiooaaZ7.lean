/- Texts put together (7 of 9): Sort9, Sort10, Sort11, VarintW, Read, Read2. -/
import Derived.Test.YtgneigdcgfiooaaZ2
import Derived.Test.YtgneigdcgfiooaaZ6
import Derived.Laws.Bits64
import Derived.Sort.Lot0
import Derived.Handy
import Derived.Sort.AssemblyPlain
import Derived.Test.YtgneigdcgfiooaaZ3
import Derived.Test.YtgneigdcgfiooaaZ5
import Derived.Deep.CutRange
import Derived.Deep.CutBlock
import Derived.Test.YtgneigdcgfiooaaZ1
/- The patterns at uint32: xorshift, nextPowerOfTwo, breakPatterns: which places are swapped. -/
namespace Go.Proofs.Ytgneigdcgfiooaa
open Go Go.RowKit Go.Lib

theorem bits_nn (op : BinOp) (x y : Int) : ∃ r : Nat, bits op .u64 x y = (r : Int) ∧ r < 18446744073709551616 := by
  unfold bits
  rw [IntKind.wrap_u64]
  exact ⟨_ % 18446744073709551616, (Int.natCast_emod _ _).symm, Nat.mod_lt _ (by omega)⟩
theorem bits_and_le (x : Int) (m : Nat) : ∃ r : Nat, bits .and .u64 x (m : Int) = (r : Int) ∧ r ≤ m := by
  unfold bits
  rw [IntKind.wrap_u64]
  refine ⟨_ % 18446744073709551616, (Int.natCast_emod _ _).symm, ?_⟩
  refine Nat.le_trans (Nat.mod_le _ _) ?_
  show (BitVec.ofInt 64 x &&& BitVec.ofInt 64 (m : Int)).toNat ≤ m
  rw [BitVec.toNat_and]
  refine Nat.le_trans Nat.and_le_right ?_
  rw [BitVec.ofInt_natCast, BitVec.toNat_ofNat]
  exact Nat.mod_le _ _
theorem bitLen_pow (m : Nat) (h0 : 0 < m) (hm : m ≤ 1000000) : m < 2 ^ Lib.bitLen m ∧ 2 ^ Lib.bitLen m ≤ 2 * m ∧ Lib.bitLen m ≤ 20 := by
  have key : ∀ (f x : Nat), x < 2 ^ f → x < 2 ^ Lib.bitLenAux f x ∧ (0 < x → 2 ^ Lib.bitLenAux f x ≤ 2 * x) ∧ Lib.bitLenAux f x ≤ f := by
    intro f
    induction f with
    | zero => intro x hx; exact ⟨hx, fun h => absurd hx (by simp; omega), Nat.le_refl _⟩
    | succ f ih =>
      intro x hx
      unfold Lib.bitLenAux
      by_cases h : x = 0
      · rw [if_pos h]
        subst h
        exact ⟨by decide, fun h => absurd h (by omega), Nat.zero_le _⟩
      · rw [if_neg h]
        obtain ⟨h1, h2, h3⟩ := ih (x / 2) (by rw [Nat.pow_succ] at hx; omega)
        rw [Nat.add_comm 1, Nat.pow_succ]
        refine ⟨by omega, fun _ => ?_, by omega⟩
        by_cases h4 : x / 2 = 0
        · rw [h4] at h1 h2 ⊢
          have : Lib.bitLenAux f 0 = 0 := by cases f <;> simp [Lib.bitLenAux]
          rw [this]
          omega
        · have := h2 (by omega)
          omega
  have hb : Lib.bitLen m = Lib.bitLenAux 20 m := by
    unfold Lib.bitLen
    exact Lib.bitLenAux_fuel 20 m (by omega) 64 (by omega)
  rw [hb]
  obtain ⟨h1, h2, h3⟩ := key 20 m (by omega)
  exact ⟨h1, h2 h0, h3⟩
set_option maxRecDepth 100000 in
set_option maxHeartbeats 2000000 in
theorem next2_any (m : Nat) (w : World) (h0 : 0 < m) (hm : m ≤ 1000000) : Calls Try.prog 47 #[.int .i64 (m : Int)] w fun e w' => ∃ p : Nat, e = .returned (.int .u64 (p : Int)) ∧ Hid (m < p ∧ p ≤ 2 * m) ∧ w' = w := by
  have HL := Lib.hid (Try.bits_Len (m : Int) w (by omega) (by omega))
  have HB := Lib.hid (bitLen_pow m h0 hm)
  go_enter Try.func47, Try.ntmps47
  go_wp2_with fail
  refine HL.out.mono ?_
  rintro e w1 ⟨rfl, rfl⟩
  go_wp2_with fail
  go_ret
  refine ⟨2 ^ Lib.bitLen m, ?_, Lib.hid ⟨HB.out.1, HB.out.2.1⟩, rfl⟩
  have h1 : min (Lib.bitLen m) 64 = Lib.bitLen m := Nat.min_eq_left (by have := HB.out.2.2; omega)
  have h2 : IntKind.u64.wrap (2 ^ min (Lib.bitLen m) 64) = ((2 ^ Lib.bitLen m : Nat) : Int) := by
    rw [h1, IntKind.wrap_u64]
    have h3 : ((2 : Int) ^ Lib.bitLen m) = ((2 ^ Lib.bitLen m : Nat) : Int) := (Int.natCast_pow 2 _).symm
    rw [h3]
    have h4 := HB.out.2.1
    generalize 2 ^ Lib.bitLen m = q at h4 ⊢
    omega
  rw [← h2]
  rfl
set_option maxRecDepth 100000 in
set_option maxHeartbeats 2000000 in
theorem xnext_any (g : Nat) (x : Int) (w : World) (h : w.heap[g]? = some (.cells #[.int .u64 x] 94 (0, 0))) : Calls Try.prog 48 #[.pointer (some ⟨g, 0, none⟩)] w fun e w' => ∃ y : Nat, e = .returned (.int .u64 (y : Int)) ∧ w'.heap[g]? = some (.cells #[.int .u64 (y : Int)] 94 (0, 0)) ∧ Mod [g] w w' := by
  have H0 := Lib.hid h
  clear h
  go_enter Try.func48, Try.ntmps48
  obtain ⟨r1, hr1, -⟩ := bits_nn BinOp.xor x (IntKind.u64.wrap (x * 8192))
  go_upto_region 1 with (fail)
  refine restu_start 9 [] [g] 10 #[false, false, false, false, false, false, false, false, false, false] rfl (by kernel_rfl) (by kernel_rfl) ?_
  intro vA mA
  have HA := Lib.hid (mA.get H0.out List.not_mem_nil)
  have CA : Hid (vA.cell? ⟨g, 0, none⟩ = some (.int .u64 x)) := Lib.hid (cell_of_block (i := 0) HA.out)
  have NA := Lib.hid mA
  clear mA
  refine restu_got (i := 0) (v := ?v1) rfl (by kernel_rfl) (by kernel_rfl) (by kernel_rfl) (by rfl) (fun _ _ _ h => h) (by rfl) ?y1 ?r1
  case y1 => (intro w9q hSwq; clear hSwq; go_simp; with_reducible rfl)
  try simp only [Act.put, List.setIfInBounds_toArray, List.set_cons_zero, List.set_cons_succ]
  refine restu_got (i := 1) (v := ?v2) rfl (by kernel_rfl) (by kernel_rfl) (by kernel_rfl) (by rfl) (fun _ _ _ h => h) (by rfl) ?y2 ?r2
  case y2 => (intro w9q hSwq; clear hSwq; go_simp; with_reducible rfl)
  try simp only [Act.put, List.setIfInBounds_toArray, List.set_cons_zero, List.set_cons_succ]
  refine restu_early (i := 2) [7, 8, 9] (v := ?v3) rfl (by kernel_rfl) (by kernel_rfl) (by kernel_rfl) (by rfl) (by kernel_rfl) (by rfl) (by kernel_rfl) (fun _ _ _ h => h) (by rfl) ?y3 ?r3
  case y3 => ((intro w9' hm9'; have hc9' := Mod.cell hm9' CA.out (by first | exact List.not_mem_nil | assumption | (simp; done) | (simp; omega)); clear hm9'; go_simp; with_reducible rfl))
  try simp only [Act.put, List.setIfInBounds_toArray, List.set_cons_zero, List.set_cons_succ]
  refine restu_got (i := 3) (v := ?v4) rfl (by kernel_rfl) (by kernel_rfl) (by kernel_rfl) (by rfl) (fun _ _ _ h => h) (by rfl) ?y4 ?r4
  case y4 => (intro w9q hSwq; clear hSwq; go_simp; with_reducible rfl)
  try simp only [Act.put, List.setIfInBounds_toArray, List.set_cons_zero, List.set_cons_succ]
  refine restu_got (i := 4) (v := ?v5) rfl (by kernel_rfl) (by kernel_rfl) (by kernel_rfl) (by rfl) (fun _ _ _ h => h) (by rfl) ?y5 ?r5
  case y5 => (intro w9q hSwq; clear hSwq; go_simp; with_reducible rfl)
  try simp only [Act.put, List.setIfInBounds_toArray, List.set_cons_zero, List.set_cons_succ]
  refine restu_early (i := 5) [6, 7, 8, 9] (v := ?v6) rfl (by kernel_rfl) (by kernel_rfl) (by kernel_rfl) (by rfl) (by kernel_rfl) (by rfl) (by kernel_rfl) (fun _ _ _ h => h) (by rfl) ?y6 ?r6
  case y6 => ((intro w9' hm9'; have hc9' := Mod.cell hm9' CA.out (by first | exact List.not_mem_nil | assumption | (simp; done) | (simp; omega)); clear hm9'; go_simp; with_reducible rfl))
  try simp only [Act.put, List.setIfInBounds_toArray, List.set_cons_zero, List.set_cons_succ]
  refine restu_got (i := 6) (v := ?v7) rfl (by kernel_rfl) (by kernel_rfl) (by kernel_rfl) (by rfl) (fun _ _ _ h => h) (by rfl) ?y7 ?r7
  case y7 => (intro w9q hSwq; clear hSwq; go_simp; with_reducible rfl)
  try simp only [Act.put, List.setIfInBounds_toArray, List.set_cons_zero, List.set_cons_succ]
  refine restu_got (i := 7) (v := ?v8) rfl (by kernel_rfl) (by kernel_rfl) (by kernel_rfl) (by rfl) (fun _ _ _ h => h) (by rfl) ?y8 ?r8
  case y8 => (intro w9q hSwq; clear hSwq; go_simp; with_reducible rfl)
  try simp only [Act.put, List.setIfInBounds_toArray, List.set_cons_zero, List.set_cons_succ]
  refine restu_got (i := 8) (v := ?v9) rfl (by kernel_rfl) (by kernel_rfl) (by kernel_rfl) (by rfl) (fun _ _ _ h => h) (by rfl) ?y9 ?r9
  case y9 => (intro w9q hSwq; clear hSwq; go_simp; with_reducible rfl)
  try simp only [Act.put, List.setIfInBounds_toArray, List.set_cons_zero, List.set_cons_succ]
  refine restu_one (i := 9) (by kernel_rfl) rfl (by rfl) ?_
  have cA := CA.out
  have fA := free_of_block (i := 0) HA.out
  go_wp2_with fail
  try simp only [hr1]
  have SA : Hid ((vA.setCell ⟨g, 0, none⟩ (.int .u64 (r1 : Int))).heap[g]? = some (.cells #[.int .u64 (r1 : Int)] 94 (0, 0))) := Lib.hid (heap_setCell_same HA.out (i := 0) (.int .u64 (r1 : Int)))
  have nA : Mod [g] vA (vA.setCell ⟨g, 0, none⟩ (.int .u64 (r1 : Int))) := Mod.setCell _ _ _ (by simp)
  have MA := Lib.hid ((NA.out.nil.trans' nA))
  refine backm_to (K1 := []) (by kernel_rfl) nA (by simp) ?_
  clear nA cA fA CA HA NA hr1
  refine rest_done (by kernel_rfl) ?_ _
  obtain ⟨wA, hwA⟩ : ∃ q, vA.setCell ⟨g, 0, none⟩ (.int .u64 (r1 : Int)) = q := ⟨_, rfl⟩
  rw [hwA] at SA MA ⊢
  clear hwA
  obtain ⟨r2, hr2, -⟩ := bits_nn BinOp.xor (r1 : Int) ((r1 : Int) / 128)
  go_upto_region 2 with (fail)
  refine restu_start 9 [] [g] 10 #[false, false, false, false, false, false, false, false, false, false] rfl (by kernel_rfl) (by kernel_rfl) ?_
  intro vB mB
  have HB := Lib.hid (mB.get SA.out List.not_mem_nil)
  have CB : Hid (vB.cell? ⟨g, 0, none⟩ = some (.int .u64 (r1 : Int))) := Lib.hid (cell_of_block (i := 0) HB.out)
  have NB := Lib.hid mB
  clear mB
  refine restu_got (i := 0) (v := ?v10) rfl (by kernel_rfl) (by kernel_rfl) (by kernel_rfl) (by rfl) (fun _ _ _ h => h) (by rfl) ?y10 ?r10
  case y10 => (intro w9q hSwq; clear hSwq; go_simp; with_reducible rfl)
  try simp only [Act.put, List.setIfInBounds_toArray, List.set_cons_zero, List.set_cons_succ]
  refine restu_got (i := 1) (v := ?v11) rfl (by kernel_rfl) (by kernel_rfl) (by kernel_rfl) (by rfl) (fun _ _ _ h => h) (by rfl) ?y11 ?r11
  case y11 => (intro w9q hSwq; clear hSwq; go_simp; with_reducible rfl)
  try simp only [Act.put, List.setIfInBounds_toArray, List.set_cons_zero, List.set_cons_succ]
  refine restu_early (i := 2) [7, 8, 9] (v := ?v12) rfl (by kernel_rfl) (by kernel_rfl) (by kernel_rfl) (by rfl) (by kernel_rfl) (by rfl) (by kernel_rfl) (fun _ _ _ h => h) (by rfl) ?y12 ?r12
  case y12 => ((intro w9' hm9'; have hc9' := Mod.cell hm9' CB.out (by first | exact List.not_mem_nil | assumption | (simp; done) | (simp; omega)); clear hm9'; go_simp; with_reducible rfl))
  try simp only [Act.put, List.setIfInBounds_toArray, List.set_cons_zero, List.set_cons_succ]
  refine restu_got (i := 3) (v := ?v13) rfl (by kernel_rfl) (by kernel_rfl) (by kernel_rfl) (by rfl) (fun _ _ _ h => h) (by rfl) ?y13 ?r13
  case y13 => (intro w9q hSwq; clear hSwq; go_simp; with_reducible rfl)
  try simp only [Act.put, List.setIfInBounds_toArray, List.set_cons_zero, List.set_cons_succ]
  refine restu_got (i := 4) (v := ?v14) rfl (by kernel_rfl) (by kernel_rfl) (by kernel_rfl) (by rfl) (fun _ _ _ h => h) (by rfl) ?y14 ?r14
  case y14 => (intro w9q hSwq; clear hSwq; go_simp; with_reducible rfl)
  try simp only [Act.put, List.setIfInBounds_toArray, List.set_cons_zero, List.set_cons_succ]
  refine restu_early (i := 5) [6, 7, 8, 9] (v := ?v15) rfl (by kernel_rfl) (by kernel_rfl) (by kernel_rfl) (by rfl) (by kernel_rfl) (by rfl) (by kernel_rfl) (fun _ _ _ h => h) (by rfl) ?y15 ?r15
  case y15 => ((intro w9' hm9'; have hc9' := Mod.cell hm9' CB.out (by first | exact List.not_mem_nil | assumption | (simp; done) | (simp; omega)); clear hm9'; go_simp; with_reducible rfl))
  try simp only [Act.put, List.setIfInBounds_toArray, List.set_cons_zero, List.set_cons_succ]
  refine restu_got (i := 6) (v := ?v16) rfl (by kernel_rfl) (by kernel_rfl) (by kernel_rfl) (by rfl) (fun _ _ _ h => h) (by rfl) ?y16 ?r16
  case y16 => (intro w9q hSwq; clear hSwq; go_simp; with_reducible rfl)
  try simp only [Act.put, List.setIfInBounds_toArray, List.set_cons_zero, List.set_cons_succ]
  refine restu_got (i := 7) (v := ?v17) rfl (by kernel_rfl) (by kernel_rfl) (by kernel_rfl) (by rfl) (fun _ _ _ h => h) (by rfl) ?y17 ?r17
  case y17 => (intro w9q hSwq; clear hSwq; go_simp; with_reducible rfl)
  try simp only [Act.put, List.setIfInBounds_toArray, List.set_cons_zero, List.set_cons_succ]
  refine restu_got (i := 8) (v := ?v18) rfl (by kernel_rfl) (by kernel_rfl) (by kernel_rfl) (by rfl) (fun _ _ _ h => h) (by rfl) ?y18 ?r18
  case y18 => (intro w9q hSwq; clear hSwq; go_simp; with_reducible rfl)
  try simp only [Act.put, List.setIfInBounds_toArray, List.set_cons_zero, List.set_cons_succ]
  refine restu_one (i := 9) (by kernel_rfl) rfl (by rfl) ?_
  have cB := CB.out
  have fB := free_of_block (i := 0) HB.out
  go_wp2_with fail
  try simp only [hr2]
  have SB : Hid ((vB.setCell ⟨g, 0, none⟩ (.int .u64 (r2 : Int))).heap[g]? = some (.cells #[.int .u64 (r2 : Int)] 94 (0, 0))) := Lib.hid (heap_setCell_same HB.out (i := 0) (.int .u64 (r2 : Int)))
  have nB : Mod [g] vB (vB.setCell ⟨g, 0, none⟩ (.int .u64 (r2 : Int))) := Mod.setCell _ _ _ (by simp)
  have MB := Lib.hid (MA.out.trans' (NB.out.nil.trans' nB))
  refine backm_to (K1 := []) (by kernel_rfl) nB (by simp) ?_
  clear nB cB fB CB HB NB hr2
  refine rest_done (by kernel_rfl) ?_ _
  obtain ⟨wB, hwB⟩ : ∃ q, vB.setCell ⟨g, 0, none⟩ (.int .u64 (r2 : Int)) = q := ⟨_, rfl⟩
  rw [hwB] at SB MB ⊢
  clear hwB
  obtain ⟨r3, hr3, -⟩ := bits_nn BinOp.xor (r2 : Int) (IntKind.u64.wrap ((r2 : Int) * 131072))
  go_upto_region 3 with (fail)
  refine restu_start 9 [] [g] 10 #[false, false, false, false, false, false, false, false, false, false] rfl (by kernel_rfl) (by kernel_rfl) ?_
  intro vC mC
  have HC := Lib.hid (mC.get SB.out List.not_mem_nil)
  have CC : Hid (vC.cell? ⟨g, 0, none⟩ = some (.int .u64 (r2 : Int))) := Lib.hid (cell_of_block (i := 0) HC.out)
  have NC := Lib.hid mC
  clear mC
  refine restu_got (i := 0) (v := ?v19) rfl (by kernel_rfl) (by kernel_rfl) (by kernel_rfl) (by rfl) (fun _ _ _ h => h) (by rfl) ?y19 ?r19
  case y19 => (intro w9q hSwq; clear hSwq; go_simp; with_reducible rfl)
  try simp only [Act.put, List.setIfInBounds_toArray, List.set_cons_zero, List.set_cons_succ]
  refine restu_got (i := 1) (v := ?v20) rfl (by kernel_rfl) (by kernel_rfl) (by kernel_rfl) (by rfl) (fun _ _ _ h => h) (by rfl) ?y20 ?r20
  case y20 => (intro w9q hSwq; clear hSwq; go_simp; with_reducible rfl)
  try simp only [Act.put, List.setIfInBounds_toArray, List.set_cons_zero, List.set_cons_succ]
  refine restu_early (i := 2) [7, 8, 9] (v := ?v21) rfl (by kernel_rfl) (by kernel_rfl) (by kernel_rfl) (by rfl) (by kernel_rfl) (by rfl) (by kernel_rfl) (fun _ _ _ h => h) (by rfl) ?y21 ?r21
  case y21 => ((intro w9' hm9'; have hc9' := Mod.cell hm9' CC.out (by first | exact List.not_mem_nil | assumption | (simp; done) | (simp; omega)); clear hm9'; go_simp; with_reducible rfl))
  try simp only [Act.put, List.setIfInBounds_toArray, List.set_cons_zero, List.set_cons_succ]
  refine restu_got (i := 3) (v := ?v22) rfl (by kernel_rfl) (by kernel_rfl) (by kernel_rfl) (by rfl) (fun _ _ _ h => h) (by rfl) ?y22 ?r22
  case y22 => (intro w9q hSwq; clear hSwq; go_simp; with_reducible rfl)
  try simp only [Act.put, List.setIfInBounds_toArray, List.set_cons_zero, List.set_cons_succ]
  refine restu_got (i := 4) (v := ?v23) rfl (by kernel_rfl) (by kernel_rfl) (by kernel_rfl) (by rfl) (fun _ _ _ h => h) (by rfl) ?y23 ?r23
  case y23 => (intro w9q hSwq; clear hSwq; go_simp; with_reducible rfl)
  try simp only [Act.put, List.setIfInBounds_toArray, List.set_cons_zero, List.set_cons_succ]
  refine restu_early (i := 5) [6, 7, 8, 9] (v := ?v24) rfl (by kernel_rfl) (by kernel_rfl) (by kernel_rfl) (by rfl) (by kernel_rfl) (by rfl) (by kernel_rfl) (fun _ _ _ h => h) (by rfl) ?y24 ?r24
  case y24 => ((intro w9' hm9'; have hc9' := Mod.cell hm9' CC.out (by first | exact List.not_mem_nil | assumption | (simp; done) | (simp; omega)); clear hm9'; go_simp; with_reducible rfl))
  try simp only [Act.put, List.setIfInBounds_toArray, List.set_cons_zero, List.set_cons_succ]
  refine restu_got (i := 6) (v := ?v25) rfl (by kernel_rfl) (by kernel_rfl) (by kernel_rfl) (by rfl) (fun _ _ _ h => h) (by rfl) ?y25 ?r25
  case y25 => (intro w9q hSwq; clear hSwq; go_simp; with_reducible rfl)
  try simp only [Act.put, List.setIfInBounds_toArray, List.set_cons_zero, List.set_cons_succ]
  refine restu_got (i := 7) (v := ?v26) rfl (by kernel_rfl) (by kernel_rfl) (by kernel_rfl) (by rfl) (fun _ _ _ h => h) (by rfl) ?y26 ?r26
  case y26 => (intro w9q hSwq; clear hSwq; go_simp; with_reducible rfl)
  try simp only [Act.put, List.setIfInBounds_toArray, List.set_cons_zero, List.set_cons_succ]
  refine restu_got (i := 8) (v := ?v27) rfl (by kernel_rfl) (by kernel_rfl) (by kernel_rfl) (by rfl) (fun _ _ _ h => h) (by rfl) ?y27 ?r27
  case y27 => (intro w9q hSwq; clear hSwq; go_simp; with_reducible rfl)
  try simp only [Act.put, List.setIfInBounds_toArray, List.set_cons_zero, List.set_cons_succ]
  refine restu_one (i := 9) (by kernel_rfl) rfl (by rfl) ?_
  have cC := CC.out
  have fC := free_of_block (i := 0) HC.out
  go_wp2_with fail
  try simp only [hr3]
  have SC : Hid ((vC.setCell ⟨g, 0, none⟩ (.int .u64 (r3 : Int))).heap[g]? = some (.cells #[.int .u64 (r3 : Int)] 94 (0, 0))) := Lib.hid (heap_setCell_same HC.out (i := 0) (.int .u64 (r3 : Int)))
  have nC : Mod [g] vC (vC.setCell ⟨g, 0, none⟩ (.int .u64 (r3 : Int))) := Mod.setCell _ _ _ (by simp)
  have MC := Lib.hid (MB.out.trans' (NC.out.nil.trans' nC))
  refine backm_to (K1 := []) (by kernel_rfl) nC (by simp) ?_
  clear nC cC fC CC HC NC hr3
  refine rest_done (by kernel_rfl) ?_ _
  obtain ⟨wC, hwC⟩ : ∃ q, vC.setCell ⟨g, 0, none⟩ (.int .u64 (r3 : Int)) = q := ⟨_, rfl⟩
  rw [hwC] at SC MC ⊢
  clear hwC
  have c9 : wC.cell? ⟨g, 0, none⟩ = some (.int .u64 (r3 : Int)) := cell_of_block (i := 0) SC.out
  go_wp2
  go_ret
  exact ⟨r3, rfl, SC.out, MC.out⟩
set_option maxRecDepth 100000 in
set_option maxHeartbeats 4000000 in
theorem break_any (g cap n a b : Nat) (d : Array Nat) (w : World) (hr : Row w g cap d) (hn : d.size = n) (hab : a ≤ b) (hb : b ≤ n) (hd : n ≤ 1000000) :
    Calls Try.prog 37 #[.slice (some ⟨g, 0, none⟩) n cap, .int .i64 (a : Int), .int .i64 (b : Int)] w fun e w' => ∃ d', e = .returned (.tuple #[]) ∧ Row w' g cap d' ∧ Sort.PermIn a b d d' ∧ Mod [g] w w' := by
  have HR0 := Lib.hid hr
  have HN0 := Lib.hid hn
  have hg := hr.lt
  obtain ⟨l, hl⟩ : ∃ q, b - a = q := ⟨_, rfl⟩
  have el : (b : Int) - (a : Int) = (l : Int) := by omega
  clear hr hn
  go_enter Try.func37, Try.ntmps37
  by_cases h8 : 8 ≤ l
  · have DG8 : decide ((8 : Int) ≤ (l : Int)) = true := decide_eq_true (by omega)
    obtain ⟨q, hq⟩ : ∃ q, l / 4 = q := ⟨_, rfl⟩
    have eq4 : Int.tdiv (l : Int) 4 = (q : Int) := by subst hq; rfl
    obtain ⟨i0, hi0⟩ : ∃ i, a + q * 2 - 1 = i := ⟨_, rfl⟩
    obtain ⟨iq, hiq⟩ : ∃ i, a + q * 2 = i := ⟨_, rfl⟩
    have eiq : (a : Int) + (q : Int) * 2 = (iq : Int) := by omega
    have ei0 : (iq : Int) - 1 = (i0 : Int) := by omega
    obtain ⟨w1, hw1, hh1⟩ : ∃ w1, w.alloc (.cells #[.int .u64 0] 94) = w1 ∧ w1.heap[w.heap.size]? = some (.cells #[.int .u64 0] 94 (0, 0)) := ⟨_, rfl, heap_alloc_new _ _⟩
    have m1 : Mod [] w w1 := hw1 ▸ Mod.alloc _ _ _
    obtain ⟨gx, hgx⟩ : ∃ q, w.heap.size = q := ⟨_, rfl⟩
    rw [hgx] at hh1
    have c1 : w1.cell? ⟨gx, 0, none⟩ = some (.int .u64 0) := cell_of_block (i := 0) hh1
    have f1 := free_of_block (i := 0) hh1
    have hh2 : Hid ((w1.setCell ⟨gx, 0, none⟩ (.int .u64 (l : Int))).heap[gx]? = some (.cells #[.int .u64 (l : Int)] 94 (0, 0))) := Lib.hid (heap_setCell_same hh1 (i := 0) (.int .u64 (l : Int)))
    have m2 : Mod [gx] w1 (w1.setCell ⟨gx, 0, none⟩ (.int .u64 (l : Int))) := Mod.setCell _ _ _ (by simp)
    have hne : g ≠ gx := by omega
    have hne2 : gx ≠ g := fun e => hne e.symm
    have HR2 := Lib.hid ((HR0.out.mod0 m1).mod m2 (by simp; exact hne))
    have HM2 := Lib.hid (m1.nil.trans' m2)
    have HG := Lib.hid hgx
    have HXX := Lib.hid (fun w' => next2_any l w' (by omega) (by omega))
    obtain ⟨w2, hw2⟩ : ∃ q, w1.setCell ⟨gx, 0, none⟩ (.int .u64 (l : Int)) = q := ⟨_, rfl⟩
    rw [hw2] at hh2 HR2 HM2
    clear hh1 m1 m2 HR0
    go_wp2_with fail
    refine (HXX.out w2).mono ?_
    rintro e w3 ⟨p, rfl, hp, rfl⟩
    have hp1 := hp.out
    obtain ⟨pm, hpm⟩ : ∃ q, p - 1 = q := ⟨_, rfl⟩
    have epm : (p : Int) - 1 = (pm : Int) := by omega
    have ewp : IntKind.u64.wrap (pm : Int) = (pm : Int) := by rw [IntKind.wrap_u64]; omega
    clear HXX
    go_wp2
    go_loopw [9] (fun s9 wr => ∃ (ix : Nat) (d1 : Array Nat) (y : Nat), i0 ≤ ix ∧ ix ≤ i0 + 3 ∧ s9 = .int .i64 (ix : Int) ∧ Row wr g cap d1 ∧ Sort.PermIn a b d d1 ∧ wr.heap[gx]? = some (.cells #[.int .u64 (y : Int)] 94 (0, 0)) ∧ Mod [g, gx] w3 wr) (fun s9 _ => i0 + 3 - (RowKit.intOf s9).toNat)
    case atStart => exact ⟨i0, d, l, Nat.le_refl _, by omega, by first | rfl | (congr 1; omega), HR2.out, Sort.permIn_refl d a b, hh2.out, Mod.refl _ _⟩
    case round =>
      rename World => wr
      obtain ⟨ix, d1, y, hix, hix3, rfl, hR, hP, hY, hm⟩ := hrel
      have HR := Lib.hid hR
      have HP := Lib.hid hP
      have HM := Lib.hid hm
      have HN1 : Hid (d1.size = n) := Lib.hid (hP.1.trans HN0.out)
      have HY := Lib.hid (xnext_any gx y wr hY)
      clear hR hP hm hY
      have eiq1 : (iq : Int) + 1 = ((i0 + 2 : Nat) : Int) := by omega
      by_cases hlt : ix ≤ i0 + 2
      · obtain ⟨i2, hi2⟩ : ∃ q, i0 + 2 = q := ⟨_, rfl⟩
        rw [hi2] at eiq1
        have DGL : decide ((ix : Int) ≤ (i2 : Int)) = true := decide_eq_true (by omega)
        have DGL2 : decide (ix ≤ i2) = true := decide_eq_true (by omega)
        go_wp2_with fail
        refine HY.out.mono ?_
        rintro e w4 ⟨y2, rfl, hY2, m4⟩
        obtain ⟨r, hr0, hrp⟩ := bits_and_le (y2 : Int) pm
        have HY2 := Lib.hid hY2
        have HR4 := Lib.hid (HR.out.mod m4 (by simp; exact hne))
        have HM4 := Lib.hid (HM.out.trans' (m4.weaken (fun j hj => by simp at hj; simp [hj])))
        clear hY2 m4 HY HR
        have Bix : (ix : Int) < (n : Int) := by omega
        by_cases hrl : l ≤ r
        · have DGR : decide (l ≤ r) = true := decide_eq_true hrl
          have DGR2 : decide ((l : Int) ≤ (r : Int)) = true := decide_eq_true (by omega)
          obtain ⟨o, ho⟩ : ∃ q, r - l = q := ⟨_, rfl⟩
          have eo : (r : Int) - (l : Int) = (o : Int) := by omega
          obtain ⟨ao, hao⟩ : ∃ q, a + o = q := ⟨_, rfl⟩
          have eao : IntKind.i64.wrap ((a : Int) + (o : Int)) = (ao : Int) := by rw [show (a : Int) + (o : Int) = (ao : Int) by omega]; exact IntWalk.i64_in _ (by omega)
          have Bao : (ao : Int) < (n : Int) := by omega
          obtain ⟨xiS, hxiS⟩ : ∃ x, (d1)[ix]! = x := ⟨_, rfl⟩
          obtain ⟨xjS, hxjS⟩ : ∃ x, (d1)[ao]! = x := ⟨_, rfl⟩
          have HSIS : Hid ((d1)[ix]! = xiS) := Lib.hid hxiS
          have HSJS : Hid ((d1)[ao]! = xjS) := Lib.hid hxjS
          have HBIS : ix < (d1).size := by rw [HN1.out]; omega
          have HBJS : ao < (d1).size := by rw [HN1.out]; omega
          clear hxiS hxjS
          go_upto_region 10 with (fail)
          refine restu_start 17 [] [g] 20 #[false, false, false, false, false, false, false, false, false, false, false, false, false, false, false, false, false, false, false, false] rfl (by kernel_rfl) (by kernel_rfl) ?_
          intro vS nS
          have RvS := Lib.hid (HR4.out.mod0 nS)
          have CiS := Lib.hid (RvS.out.cell HBIS HSIS.out)
          have CjS := Lib.hid (RvS.out.cell HBJS HSJS.out)
          have NvS := Lib.hid nS
          clear nS
          refine restu_got (i := 0) (v := ?v28) rfl (by kernel_rfl) (by kernel_rfl) (by kernel_rfl) (by rfl) (fun _ _ _ h => h) (by rfl) ?y28 ?r28
          case y28 => (intro w9q hSwq; clear hSwq; go_simp; with_reducible rfl)
          try simp only [Act.put, List.setIfInBounds_toArray, List.set_cons_zero, List.set_cons_succ]
          refine restu_got (i := 1) (v := ?v29) rfl (by kernel_rfl) (by kernel_rfl) (by kernel_rfl) (by rfl) (fun _ _ _ h => h) (by rfl) ?y29 ?r29
          case y29 => (intro w9q hSwq; clear hSwq; go_simp; with_reducible rfl)
          try simp only [Act.put, List.setIfInBounds_toArray, List.set_cons_zero, List.set_cons_succ]
          refine restu_got (i := 2) (v := ?v30) rfl (by kernel_rfl) (by kernel_rfl) (by kernel_rfl) (by rfl) (fun _ _ _ h => h) (by rfl) ?y30 ?r30
          case y30 => (intro w9q hSwq; clear hSwq; go_simp; with_reducible rfl)
          try simp only [Act.put, List.setIfInBounds_toArray, List.set_cons_zero, List.set_cons_succ]
          refine restu_got (i := 3) (v := ?v31) rfl (by kernel_rfl) (by kernel_rfl) (by kernel_rfl) (by rfl) (fun _ _ _ h => h) (by rfl) ?y31 ?r31
          case y31 => (intro w9q hSwq; clear hSwq; go_simp; with_reducible rfl)
          try simp only [Act.put, List.setIfInBounds_toArray, List.set_cons_zero, List.set_cons_succ]
          refine restu_got (i := 4) (v := ?v32) rfl (by kernel_rfl) (by kernel_rfl) (by kernel_rfl) (by rfl) (fun _ _ _ h => h) (by rfl) ?y32 ?r32
          case y32 => (intro w9q hSwq; clear hSwq; go_simp; with_reducible rfl)
          try simp only [Act.put, List.setIfInBounds_toArray, List.set_cons_zero, List.set_cons_succ]
          refine restu_got (i := 5) (v := ?v33) rfl (by kernel_rfl) (by kernel_rfl) (by kernel_rfl) (by rfl) (fun _ _ _ h => h) (by rfl) ?y33 ?r33
          case y33 => (intro w9q hSwq; clear hSwq; go_simp; with_reducible rfl)
          try simp only [Act.put, List.setIfInBounds_toArray, List.set_cons_zero, List.set_cons_succ]
          refine restu_got (i := 6) (v := ?v34) rfl (by kernel_rfl) (by kernel_rfl) (by kernel_rfl) (by rfl) (fun _ _ _ h => h) (by rfl) ?y34 ?r34
          case y34 => (intro w9q hSwq; clear hSwq; go_simp; with_reducible rfl)
          try simp only [Act.put, List.setIfInBounds_toArray, List.set_cons_zero, List.set_cons_succ]
          refine restu_got (i := 7) (v := ?v35) rfl (by kernel_rfl) (by kernel_rfl) (by kernel_rfl) (by rfl) (fun _ _ _ h => h) (by rfl) ?y35 ?r35
          case y35 => (intro w9q hSwq; clear hSwq; go_simp; with_reducible rfl)
          try simp only [Act.put, List.setIfInBounds_toArray, List.set_cons_zero, List.set_cons_succ]
          refine restu_got (i := 8) (v := ?v36) rfl (by kernel_rfl) (by kernel_rfl) (by kernel_rfl) (by rfl) (fun _ _ _ h => h) (by rfl) ?y36 ?r36
          case y36 => (intro w9q hSwq; clear hSwq; go_simp; with_reducible rfl)
          try simp only [Act.put, List.setIfInBounds_toArray, List.set_cons_zero, List.set_cons_succ]
          refine restu_got (i := 9) (v := ?v37) rfl (by kernel_rfl) (by kernel_rfl) (by kernel_rfl) (by rfl) (fun _ _ _ h => h) (by rfl) ?y37 ?r37
          case y37 => (intro w9q hSwq; clear hSwq; go_simp; with_reducible rfl)
          try simp only [Act.put, List.setIfInBounds_toArray, List.set_cons_zero, List.set_cons_succ]
          refine restu_got (i := 10) (v := ?v38) rfl (by kernel_rfl) (by kernel_rfl) (by kernel_rfl) (by rfl) (fun _ _ _ h => h) (by rfl) ?y38 ?r38
          case y38 => (intro w9q hSwq; clear hSwq; go_simp; with_reducible rfl)
          try simp only [Act.put, List.setIfInBounds_toArray, List.set_cons_zero, List.set_cons_succ]
          refine restu_early (i := 11) [16, 17, 18, 19] (v := ?v39) rfl (by kernel_rfl) (by kernel_rfl) (by kernel_rfl) (by rfl) (by kernel_rfl) (by rfl) (by kernel_rfl) (fun _ _ _ h => h) (by rfl) ?y39 ?r39
          case y39 => ((intro w9' hm9'; have hc9' := Mod.cell hm9' CjS.out (by first | exact List.not_mem_nil | assumption | (simp; done) | (simp; omega)); clear hm9'; go_simp; with_reducible rfl))
          try simp only [Act.put, List.setIfInBounds_toArray, List.set_cons_zero, List.set_cons_succ]
          refine restu_got (i := 12) (v := ?v40) rfl (by kernel_rfl) (by kernel_rfl) (by kernel_rfl) (by rfl) (fun _ _ _ h => h) (by rfl) ?y40 ?r40
          case y40 => (intro w9q hSwq; clear hSwq; go_simp; with_reducible rfl)
          try simp only [Act.put, List.setIfInBounds_toArray, List.set_cons_zero, List.set_cons_succ]
          refine restu_got (i := 13) (v := ?v41) rfl (by kernel_rfl) (by kernel_rfl) (by kernel_rfl) (by rfl) (fun _ _ _ h => h) (by rfl) ?y41 ?r41
          case y41 => (intro w9q hSwq; clear hSwq; go_simp; with_reducible rfl)
          try simp only [Act.put, List.setIfInBounds_toArray, List.set_cons_zero, List.set_cons_succ]
          refine restu_got (i := 14) (v := ?v42) rfl (by kernel_rfl) (by kernel_rfl) (by kernel_rfl) (by rfl) (fun _ _ _ h => h) (by rfl) ?y42 ?r42
          case y42 => (intro w9q hSwq; clear hSwq; go_simp; with_reducible rfl)
          try simp only [Act.put, List.setIfInBounds_toArray, List.set_cons_zero, List.set_cons_succ]
          refine restu_early (i := 15) [16, 17, 18, 19] (v := ?v43) rfl (by kernel_rfl) (by kernel_rfl) (by kernel_rfl) (by rfl) (by kernel_rfl) (by rfl) (by kernel_rfl) (fun _ _ _ h => h) (by rfl) ?y43 ?r43
          case y43 => ((intro w9' hm9'; have hc9' := Mod.cell hm9' CiS.out (by first | exact List.not_mem_nil | assumption | (simp; done) | (simp; omega)); clear hm9'; go_simp; with_reducible rfl))
          try simp only [Act.put, List.setIfInBounds_toArray, List.set_cons_zero, List.set_cons_succ]
          refine restu_got (i := 16) (v := ?v44) rfl (by kernel_rfl) (by kernel_rfl) (by kernel_rfl) (by rfl) (fun _ _ _ h => h) (by rfl) ?y44 ?r44
          case y44 => (intro w9q hSwq; clear hSwq; go_simp; with_reducible rfl)
          try simp only [Act.put, List.setIfInBounds_toArray, List.set_cons_zero, List.set_cons_succ]
          refine restu_one (i := 17) (by kernel_rfl) rfl (by rfl) ?_
          have ciS := (RvS.out.at' HBIS).1
          have fiS := (RvS.out.at' HBIS).2
          go_wp2_with fail
          have RaS := Lib.hid (RvS.out.set ix xjS)
          have naS : Mod [g] vS (vS.setCell ⟨g, ix, none⟩ (.int .u32 (xjS : Int))) := Mod.setCell _ _ _ (by simp)
          have NaS := Lib.hid (NvS.out.nil.trans' naS)
          have RbS := Lib.hid (RvS.out.swp HSIS.out HSJS.out)
          refine backm_to (K1 := [g]) (by kernel_rfl) naS (fun _ h _ => h) ?_
          clear naS ciS fiS CiS CjS NvS RvS
          refine rest_got (i := 18) (v := ?v45) rfl (by kernel_rfl) (by kernel_rfl) (by kernel_rfl) (fun _ _ _ h => h) (by rfl) ?y45 ?r45
          case y45 => (intro w9q hSwq; clear hSwq; go_simp; with_reducible rfl)
          try simp only [Act.put, List.setIfInBounds_toArray, List.set_cons_zero, List.set_cons_succ]
          refine rest_one (i := 19) (by kernel_rfl) rfl (by rfl) ?_
          have cjS := (RaS.out.at' (i := ao) (by rw [Array.size_setIfInBounds]; exact HBJS)).1
          have fjS := (RaS.out.at' (i := ao) (by rw [Array.size_setIfInBounds]; exact HBJS)).2
          go_wp2_with fail
          have nbS : Mod [g] (vS.setCell ⟨g, ix, none⟩ (.int .u32 (xjS : Int))) ((vS.setCell ⟨g, ix, none⟩ (.int .u32 (xjS : Int))).setCell ⟨g, ao, none⟩ (.int .u32 (xiS : Int))) := Mod.setCell _ _ _ (by simp)
          have MS := Lib.hid (NaS.out.trans' nbS)
          have RS := Lib.hid RbS.out
          refine back_to (K1 := []) nbS (by simp) ?_
          clear nbS cjS fjS NaS RaS RbS HSIS HSJS
          refine rest_done (by kernel_rfl) ?_ _
          have HYS := Lib.hid (MS.out.get HY2.out (by simp; exact hne2))
          have HPS := Lib.hid (Sort.permIn_trans d d1 _ a b HP.out (Sort.swp_permIn d1 a b ix ao (by omega) (by omega) (by omega) (by omega) (by rw [HN1.out]; exact hb)))
          have HMS := Lib.hid (HM4.out.trans' (MS.out.weaken (fun j hj => by simp at hj; simp [hj])))
          go_wp2
          go_roundw
          case rel => exact ⟨ix + 1, Sort.swp d1 ix ao, y2, by omega, by omega, by go_num, RS.out, HPS.out, HYS.out, HMS.out⟩
          case measure => first | (simp [RowKit.intOf]; done) | (simp [RowKit.intOf]; omega)
        · have DGR : decide (l ≤ r) = false := decide_eq_false hrl
          have DGR2 : decide ((l : Int) ≤ (r : Int)) = false := decide_eq_false (by omega)
          obtain ⟨ao, hao⟩ : ∃ q, a + r = q := ⟨_, rfl⟩
          have eao : IntKind.i64.wrap ((a : Int) + (r : Int)) = (ao : Int) := by rw [show (a : Int) + (r : Int) = (ao : Int) by omega]; exact IntWalk.i64_in _ (by omega)
          have Bao : (ao : Int) < (n : Int) := by omega
          obtain ⟨xiS, hxiS⟩ : ∃ x, (d1)[ix]! = x := ⟨_, rfl⟩
          obtain ⟨xjS, hxjS⟩ : ∃ x, (d1)[ao]! = x := ⟨_, rfl⟩
          have HSIS : Hid ((d1)[ix]! = xiS) := Lib.hid hxiS
          have HSJS : Hid ((d1)[ao]! = xjS) := Lib.hid hxjS
          have HBIS : ix < (d1).size := by rw [HN1.out]; omega
          have HBJS : ao < (d1).size := by rw [HN1.out]; omega
          clear hxiS hxjS
          go_upto_region 10 with (fail)
          refine restu_start 17 [] [g] 20 #[false, false, false, false, false, false, false, false, false, false, false, false, false, false, false, false, false, false, false, false] rfl (by kernel_rfl) (by kernel_rfl) ?_
          intro vS nS
          have RvS := Lib.hid (HR4.out.mod0 nS)
          have CiS := Lib.hid (RvS.out.cell HBIS HSIS.out)
          have CjS := Lib.hid (RvS.out.cell HBJS HSJS.out)
          have NvS := Lib.hid nS
          clear nS
          refine restu_got (i := 0) (v := ?v46) rfl (by kernel_rfl) (by kernel_rfl) (by kernel_rfl) (by rfl) (fun _ _ _ h => h) (by rfl) ?y46 ?r46
          case y46 => (intro w9q hSwq; clear hSwq; go_simp; with_reducible rfl)
          try simp only [Act.put, List.setIfInBounds_toArray, List.set_cons_zero, List.set_cons_succ]
          refine restu_got (i := 1) (v := ?v47) rfl (by kernel_rfl) (by kernel_rfl) (by kernel_rfl) (by rfl) (fun _ _ _ h => h) (by rfl) ?y47 ?r47
          case y47 => (intro w9q hSwq; clear hSwq; go_simp; with_reducible rfl)
          try simp only [Act.put, List.setIfInBounds_toArray, List.set_cons_zero, List.set_cons_succ]
          refine restu_got (i := 2) (v := ?v48) rfl (by kernel_rfl) (by kernel_rfl) (by kernel_rfl) (by rfl) (fun _ _ _ h => h) (by rfl) ?y48 ?r48
          case y48 => (intro w9q hSwq; clear hSwq; go_simp; with_reducible rfl)
          try simp only [Act.put, List.setIfInBounds_toArray, List.set_cons_zero, List.set_cons_succ]
          refine restu_got (i := 3) (v := ?v49) rfl (by kernel_rfl) (by kernel_rfl) (by kernel_rfl) (by rfl) (fun _ _ _ h => h) (by rfl) ?y49 ?r49
          case y49 => (intro w9q hSwq; clear hSwq; go_simp; with_reducible rfl)
          try simp only [Act.put, List.setIfInBounds_toArray, List.set_cons_zero, List.set_cons_succ]
          refine restu_got (i := 4) (v := ?v50) rfl (by kernel_rfl) (by kernel_rfl) (by kernel_rfl) (by rfl) (fun _ _ _ h => h) (by rfl) ?y50 ?r50
          case y50 => (intro w9q hSwq; clear hSwq; go_simp; with_reducible rfl)
          try simp only [Act.put, List.setIfInBounds_toArray, List.set_cons_zero, List.set_cons_succ]
          refine restu_got (i := 5) (v := ?v51) rfl (by kernel_rfl) (by kernel_rfl) (by kernel_rfl) (by rfl) (fun _ _ _ h => h) (by rfl) ?y51 ?r51
          case y51 => (intro w9q hSwq; clear hSwq; go_simp; with_reducible rfl)
          try simp only [Act.put, List.setIfInBounds_toArray, List.set_cons_zero, List.set_cons_succ]
          refine restu_got (i := 6) (v := ?v52) rfl (by kernel_rfl) (by kernel_rfl) (by kernel_rfl) (by rfl) (fun _ _ _ h => h) (by rfl) ?y52 ?r52
          case y52 => (intro w9q hSwq; clear hSwq; go_simp; with_reducible rfl)
          try simp only [Act.put, List.setIfInBounds_toArray, List.set_cons_zero, List.set_cons_succ]
          refine restu_got (i := 7) (v := ?v53) rfl (by kernel_rfl) (by kernel_rfl) (by kernel_rfl) (by rfl) (fun _ _ _ h => h) (by rfl) ?y53 ?r53
          case y53 => (intro w9q hSwq; clear hSwq; go_simp; with_reducible rfl)
          try simp only [Act.put, List.setIfInBounds_toArray, List.set_cons_zero, List.set_cons_succ]
          refine restu_got (i := 8) (v := ?v54) rfl (by kernel_rfl) (by kernel_rfl) (by kernel_rfl) (by rfl) (fun _ _ _ h => h) (by rfl) ?y54 ?r54
          case y54 => (intro w9q hSwq; clear hSwq; go_simp; with_reducible rfl)
          try simp only [Act.put, List.setIfInBounds_toArray, List.set_cons_zero, List.set_cons_succ]
          refine restu_got (i := 9) (v := ?v55) rfl (by kernel_rfl) (by kernel_rfl) (by kernel_rfl) (by rfl) (fun _ _ _ h => h) (by rfl) ?y55 ?r55
          case y55 => (intro w9q hSwq; clear hSwq; go_simp; with_reducible rfl)
          try simp only [Act.put, List.setIfInBounds_toArray, List.set_cons_zero, List.set_cons_succ]
          refine restu_got (i := 10) (v := ?v56) rfl (by kernel_rfl) (by kernel_rfl) (by kernel_rfl) (by rfl) (fun _ _ _ h => h) (by rfl) ?y56 ?r56
          case y56 => (intro w9q hSwq; clear hSwq; go_simp; with_reducible rfl)
          try simp only [Act.put, List.setIfInBounds_toArray, List.set_cons_zero, List.set_cons_succ]
          refine restu_early (i := 11) [16, 17, 18, 19] (v := ?v57) rfl (by kernel_rfl) (by kernel_rfl) (by kernel_rfl) (by rfl) (by kernel_rfl) (by rfl) (by kernel_rfl) (fun _ _ _ h => h) (by rfl) ?y57 ?r57
          case y57 => ((intro w9' hm9'; have hc9' := Mod.cell hm9' CjS.out (by first | exact List.not_mem_nil | assumption | (simp; done) | (simp; omega)); clear hm9'; go_simp; with_reducible rfl))
          try simp only [Act.put, List.setIfInBounds_toArray, List.set_cons_zero, List.set_cons_succ]
          refine restu_got (i := 12) (v := ?v58) rfl (by kernel_rfl) (by kernel_rfl) (by kernel_rfl) (by rfl) (fun _ _ _ h => h) (by rfl) ?y58 ?r58
          case y58 => (intro w9q hSwq; clear hSwq; go_simp; with_reducible rfl)
          try simp only [Act.put, List.setIfInBounds_toArray, List.set_cons_zero, List.set_cons_succ]
          refine restu_got (i := 13) (v := ?v59) rfl (by kernel_rfl) (by kernel_rfl) (by kernel_rfl) (by rfl) (fun _ _ _ h => h) (by rfl) ?y59 ?r59
          case y59 => (intro w9q hSwq; clear hSwq; go_simp; with_reducible rfl)
          try simp only [Act.put, List.setIfInBounds_toArray, List.set_cons_zero, List.set_cons_succ]
          refine restu_got (i := 14) (v := ?v60) rfl (by kernel_rfl) (by kernel_rfl) (by kernel_rfl) (by rfl) (fun _ _ _ h => h) (by rfl) ?y60 ?r60
          case y60 => (intro w9q hSwq; clear hSwq; go_simp; with_reducible rfl)
          try simp only [Act.put, List.setIfInBounds_toArray, List.set_cons_zero, List.set_cons_succ]
          refine restu_early (i := 15) [16, 17, 18, 19] (v := ?v61) rfl (by kernel_rfl) (by kernel_rfl) (by kernel_rfl) (by rfl) (by kernel_rfl) (by rfl) (by kernel_rfl) (fun _ _ _ h => h) (by rfl) ?y61 ?r61
          case y61 => ((intro w9' hm9'; have hc9' := Mod.cell hm9' CiS.out (by first | exact List.not_mem_nil | assumption | (simp; done) | (simp; omega)); clear hm9'; go_simp; with_reducible rfl))
          try simp only [Act.put, List.setIfInBounds_toArray, List.set_cons_zero, List.set_cons_succ]
          refine restu_got (i := 16) (v := ?v62) rfl (by kernel_rfl) (by kernel_rfl) (by kernel_rfl) (by rfl) (fun _ _ _ h => h) (by rfl) ?y62 ?r62
          case y62 => (intro w9q hSwq; clear hSwq; go_simp; with_reducible rfl)
          try simp only [Act.put, List.setIfInBounds_toArray, List.set_cons_zero, List.set_cons_succ]
          refine restu_one (i := 17) (by kernel_rfl) rfl (by rfl) ?_
          have ciS := (RvS.out.at' HBIS).1
          have fiS := (RvS.out.at' HBIS).2
          go_wp2_with fail
          have RaS := Lib.hid (RvS.out.set ix xjS)
          have naS : Mod [g] vS (vS.setCell ⟨g, ix, none⟩ (.int .u32 (xjS : Int))) := Mod.setCell _ _ _ (by simp)
          have NaS := Lib.hid (NvS.out.nil.trans' naS)
          have RbS := Lib.hid (RvS.out.swp HSIS.out HSJS.out)
          refine backm_to (K1 := [g]) (by kernel_rfl) naS (fun _ h _ => h) ?_
          clear naS ciS fiS CiS CjS NvS RvS
          refine rest_got (i := 18) (v := ?v63) rfl (by kernel_rfl) (by kernel_rfl) (by kernel_rfl) (fun _ _ _ h => h) (by rfl) ?y63 ?r63
          case y63 => (intro w9q hSwq; clear hSwq; go_simp; with_reducible rfl)
          try simp only [Act.put, List.setIfInBounds_toArray, List.set_cons_zero, List.set_cons_succ]
          refine rest_one (i := 19) (by kernel_rfl) rfl (by rfl) ?_
          have cjS := (RaS.out.at' (i := ao) (by rw [Array.size_setIfInBounds]; exact HBJS)).1
          have fjS := (RaS.out.at' (i := ao) (by rw [Array.size_setIfInBounds]; exact HBJS)).2
          go_wp2_with fail
          have nbS : Mod [g] (vS.setCell ⟨g, ix, none⟩ (.int .u32 (xjS : Int))) ((vS.setCell ⟨g, ix, none⟩ (.int .u32 (xjS : Int))).setCell ⟨g, ao, none⟩ (.int .u32 (xiS : Int))) := Mod.setCell _ _ _ (by simp)
          have MS := Lib.hid (NaS.out.trans' nbS)
          have RS := Lib.hid RbS.out
          refine back_to (K1 := []) nbS (by simp) ?_
          clear nbS cjS fjS NaS RaS RbS HSIS HSJS
          refine rest_done (by kernel_rfl) ?_ _
          have HYS := Lib.hid (MS.out.get HY2.out (by simp; exact hne2))
          have HPS := Lib.hid (Sort.permIn_trans d d1 _ a b HP.out (Sort.swp_permIn d1 a b ix ao (by omega) (by omega) (by omega) (by omega) (by rw [HN1.out]; exact hb)))
          have HMS := Lib.hid (HM4.out.trans' (MS.out.weaken (fun j hj => by simp at hj; simp [hj])))
          go_wp2
          go_roundw
          case rel => exact ⟨ix + 1, Sort.swp d1 ix ao, y2, by omega, by omega, by go_num, RS.out, HPS.out, HYS.out, HMS.out⟩
          case measure => first | (simp [RowKit.intOf]; done) | (simp [RowKit.intOf]; omega)
      · have h3 : ix = i0 + 3 := by omega
        obtain ⟨i2, hi2⟩ : ∃ q, i0 + 2 = q := ⟨_, rfl⟩
        rw [hi2] at eiq1
        have DGL : decide ((ix : Int) ≤ (i2 : Int)) = false := decide_eq_false (by omega)
        have DGL2 : decide (ix ≤ i2) = false := decide_eq_false (by omega)
        go_wp2
        first | go_end0 | (refine bodyPost_ret (results_none rfl _ _ _) rfl ?_)
        exact ⟨d1, rfl, HR.out, HP.out, (by
          have h1 : Mod [g] w w3 := ⟨HM2.out.os, HM2.out.tape, HM2.out.output, HM2.out.size, fun i hi hn2 => HM2.out.block i hi (fun h => by rw [List.mem_singleton] at h; have := HG.out; omega)⟩
          exact h1.trans HM.out (fun i hi hl => by
            simp only [List.mem_cons, List.not_mem_nil, or_false] at hi
            rcases hi with rfl | rfl
            · simp
            · have := HG.out; omega))⟩
  · have DG8 : decide ((8 : Int) ≤ (l : Int)) = false := decide_eq_false (by omega)
    go_wp2
    first | go_end0 | (refine bodyPost_ret (results_none rfl _ _ _) rfl ?_)
    exact ⟨d, rfl, HR0.out, Sort.permIn_refl d a b, Mod.refl _ _⟩
end Go.Proofs.Ytgneigdcgfiooaa
/- pdqsortOrdered's recursion, in plain words: what is kept from round to round. -/
namespace Go.Proofs.Ytgneigdcgfiooaa
open Go

theorem ltN_false {x y : Nat} : ltN x y = false ↔ y ≤ x := by
  unfold ltN
  rw [decide_eq_false_iff_not]
  omega
theorem ltN_true {x y : Nat} : ltN x y = true ↔ x < y := by
  unfold ltN
  rw [decide_eq_true_eq]
/-- A round's state (a, b, d) of a call at (a0, b0, d0). -/
def St (a0 b0 : Nat) (d0 : Array Nat) (a b : Nat) (d : Array Nat) : Prop :=
  a0 ≤ a ∧ a ≤ b ∧ b ≤ b0 ∧ Sort.PermIn a0 b0 d0 d ∧ Sort.Below ltN a b d ∧ ∀ d', Sort.PermIn a b d d' → Sort.SortedIn ltN a b d' → Sort.SortedIn ltN a0 b0 d'
section
variable {a0 b0 a b : Nat} {d0 d d1 : Array Nat}
theorem below_perm (hb : b ≤ d.size) (h : Sort.Below ltN a b d) (hp : Sort.PermIn a b d d1) : Sort.Below ltN a b d1 := by
  rcases h with h | h
  · exact .inl h
  · by_cases ha : a = 0
    · exact .inl ha
    · refine .inr fun i hi hib => ?_
      have e : d1[a - 1]! = d[a - 1]! := hp.2.1 (a - 1) (.inl (by omega))
      rw [e]
      exact Sort.permIn_all d d1 a b (fun x => ltN x d[a - 1]! = false) hb hp h i hi hib
theorem St.start (hab : a ≤ b) (h : Sort.Below ltN a b d) : St a b d a b d :=
  ⟨Nat.le_refl _, hab, Nat.le_refl _, Sort.permIn_refl d a b, h, fun _ _ h => h⟩
theorem St.size (h : St a0 b0 d0 a b d) : d.size = d0.size := h.2.2.2.1.1
theorem St.perm (hb : b0 ≤ d0.size) (h : St a0 b0 d0 a b d) (hp : Sort.PermIn a b d d1) : St a0 b0 d0 a b d1 := by
  have hs := h.size
  obtain ⟨h1, h2, h3, h4, h5, h6⟩ := h
  refine ⟨h1, h2, h3, Sort.permIn_trans _ _ _ _ _ h4 (Sort.permIn_mono d d1 a b a0 b0 h1 h3 (by omega) hp), below_perm (by omega) h5 hp, fun d' h7 h8 => h6 d' (Sort.permIn_trans _ _ _ _ _ hp h7) h8⟩
theorem St.done (hb : b0 ≤ d0.size) (h : St a0 b0 d0 a b d) (hp : Sort.PermIn a b d d1) (hs : Sort.SortedIn ltN a b d1) : Sort.PermIn a0 b0 d0 d1 ∧ Sort.SortedIn ltN a0 b0 d1 :=
  ⟨(h.perm hb hp).2.2.2.1, h.2.2.2.2.2 d1 hp hs⟩
theorem St.eq (hb : b0 ≤ d0.size) (h : St a0 b0 d0 a b d) {p : Nat} (hap : a ≤ p) (hpb : p < b) (ha : 0 < a) (hl : ltN d[a - 1]! d[p]! = false) :
    a < (Sort.partitionEqual ltN d a b p).1 ∧ (Sort.partitionEqual ltN d a b p).1 ≤ b ∧ St a0 b0 d0 (Sort.partitionEqual ltN d a b p).1 b (Sort.partitionEqual ltN d a b p).2 := by
  have hs := h.size
  have hbe : ∀ i, a ≤ i → i < b → ltN d[i]! d[a - 1]! = false := by
    rcases h.2.2.2.2.1 with h0 | h0
    · omega
    · exact h0
  have hge : ∀ i, a ≤ i → i < b → ltN d[i]! d[p]! = false := fun i h1 h2 => by
    have := hbe i h1 h2
    rw [ltN_false] at *
    omega
  obtain ⟨g1, g2, g3, g4, g5⟩ := Sort.partitionEqual_holds ltN ltN_swo d a b p hap hpb (by have := h.2.2.1; omega) hge
  generalize Sort.partitionEqual ltN d a b p = r at g1 g2 g3 g4 g5
  obtain ⟨mid, d4⟩ := r
  dsimp only at g1 g2 g3 g4 g5 ⊢
  have h4 := h.perm hb g3
  have hs4 := h4.size
  obtain ⟨k1, k2, k3, k4, k5, k6⟩ := h4
  have hge4 : ∀ i, a ≤ i → i < b → ltN d4[i]! d[p]! = false := Sort.permIn_all d d4 a b (fun x => ltN x d[p]! = false) (by omega) g3 hge
  refine ⟨g1, g2, by omega, g2, k3, k4, .inr fun i hi hib => ?_, fun d' hp' hs' => k6 d' (Sort.permIn_mono d4 d' mid b a b (by omega) (Nat.le_refl _) (by omega) hp') ?_⟩
  · have e1 := g4 (mid - 1) (by omega) (by omega)
    have e2 := g5 i hi hib
    rw [ltN_false] at *
    rw [ltN_true] at e2
    omega
  · intro i j hi hij hj
    have hlo : ∀ k, a ≤ k → k < mid → d'[k]! = d4[k]! := fun k _ hk => hp'.2.1 k (.inl hk)
    have hhi : ∀ k, mid ≤ k → k < b → ltN d[p]! d'[k]! = true := Sort.permIn_all d4 d' mid b (fun x => ltN d[p]! x = true) (by omega) hp' g5
    by_cases hjm : j < mid
    · rw [hlo i hi (by omega), hlo j (by omega) hjm]
      have e1 := g4 i hi (by omega)
      have e2 := hge4 j (by omega) hj
      rw [ltN_false] at *
      omega
    · by_cases him : i < mid
      · rw [hlo i hi him]
        have e1 := g4 i hi him
        have e2 := hhi j (by omega) hj
        rw [ltN_false] at *
        rw [ltN_true] at e2
        omega
      · exact hs' i j (by omega) hij hj
/-- Both sides of a place that parts them are sorted. -/
theorem sorted_parts {a mid b : Nat} {d : Array Nat} (h1 : ∀ i, a ≤ i → i < mid → d[i]! ≤ d[mid]!) (h2 : ∀ i, mid < i → i < b → d[mid]! ≤ d[i]!) (hs1 : Sort.SortedIn ltN a mid d) (hs2 : Sort.SortedIn ltN (mid + 1) b d) : Sort.SortedIn ltN a b d := by
  intro i j hi hij hj
  by_cases hjm : j < mid
  · exact hs1 i j hi hij hjm
  · by_cases him : mid < i
    · exact hs2 i j (by omega) hij hj
    · rw [ltN_false]
      have e1 : d[i]! ≤ d[mid]! := by
        by_cases e : i = mid
        · rw [e]; exact Nat.le_refl _
        · exact h1 i hi (by omega)
      have e2 : d[mid]! ≤ d[j]! := by
        by_cases e : j = mid
        · rw [e]; exact Nat.le_refl _
        · exact h2 j (by omega) hj
      omega
/-- What a partition gives. -/
theorem St.part (hb : b0 ≤ d0.size) (h : St a0 b0 d0 a b d) {p : Nat} (hap : a ≤ p) (hpb : p < b) {mid : Nat} {al : Bool} {d4 : Array Nat} (hr : Sort.partition ltN d a b p = (mid, al, d4)) :
    a ≤ mid ∧ mid < b ∧ St a0 b0 d0 a b d4 ∧ (∀ i, a ≤ i → i < mid → d4[i]! ≤ d4[mid]!) ∧ (∀ i, mid < i → i < b → d4[mid]! ≤ d4[i]!) := by
  have hs := h.size
  obtain ⟨g1, g2, g3, g4, g5⟩ := Sort.partition_holds ltN ltN_swo d a b p hap hpb (by have := h.2.2.1; omega)
  rw [hr] at g1 g2 g3 g4 g5
  dsimp only at g1 g2 g3 g4 g5
  refine ⟨g1, g2, h.perm hb g3, fun i h1 h2 => ?_, fun i h1 h2 => ?_⟩
  · have := g4 i h1 h2
    rw [ltN_true] at this
    omega
  · have := g5 i h1 h2
    rw [ltN_false] at this
    omega
theorem St.left (hb : b0 ≤ d0.size) (h : St a0 b0 d0 a b d) {mid : Nat} (ham : a ≤ mid) (hmb : mid < b) (h1 : ∀ i, a ≤ i → i < mid → d[i]! ≤ d[mid]!) (h2 : ∀ i, mid < i → i < b → d[mid]! ≤ d[i]!) :
    Sort.Below ltN a mid d ∧ ∀ d5, Sort.PermIn a mid d d5 → Sort.SortedIn ltN a mid d5 → St a0 b0 d0 (mid + 1) b d5 := by
  have hs := h.size
  obtain ⟨k1, k2, k3, k4, k5, k6⟩ := h
  refine ⟨?_, fun d5 hp5 hs5 => ?_⟩
  · rcases k5 with h0 | h0
    · exact .inl h0
    · exact .inr fun i hi hib => h0 i hi (by omega)
  · have hp5' := Sort.permIn_mono d d5 a mid a b (Nat.le_refl _) (by omega) (by omega) hp5
    have hs5' := hp5.1
    have em : ∀ k, mid ≤ k → d5[k]! = d[k]! := fun k hk => hp5.2.1 k (.inr hk)
    have hlo : ∀ k, a ≤ k → k < mid → d5[k]! ≤ d[mid]! := Sort.permIn_all d d5 a mid (fun x => x ≤ d[mid]!) (by omega) hp5 h1
    refine ⟨by omega, by omega, k3, Sort.permIn_trans _ _ _ _ _ k4 (Sort.permIn_mono d d5 a b a0 b0 k1 k3 (by omega) hp5'), .inr fun i hi hib => ?_, fun d' hp' hs' => k6 d' (Sort.permIn_trans _ _ _ _ _ hp5' (Sort.permIn_mono d5 d' (mid + 1) b a b (by omega) (Nat.le_refl _) (by omega) hp')) ?_⟩
    · rw [Nat.add_sub_cancel, ltN_false, em mid (Nat.le_refl _), em i (by omega)]
      exact h2 i (by omega) hib
    · have el : ∀ k, k ≤ mid → d'[k]! = d5[k]! := fun k hk => hp'.2.1 k (.inl (by omega))
      have hhi : ∀ k, mid + 1 ≤ k → k < b → d[mid]! ≤ d'[k]! := Sort.permIn_all d5 d' (mid + 1) b (fun x => d[mid]! ≤ x) (by omega) hp' (fun k hk hkb => by rw [em k (by omega)]; exact h2 k (by omega) hkb)
      refine sorted_parts (mid := mid) (fun i hi him => ?_) (fun i hi hib => ?_) (fun i j hi hij hj => ?_) hs'
      · rw [el i (by omega), el mid (Nat.le_refl _), em mid (Nat.le_refl _)]
        exact hlo i hi him
      · rw [el mid (Nat.le_refl _), em mid (Nat.le_refl _)]
        exact hhi i (by omega) hib
      · rw [el i (by omega), el j (by omega)]
        exact hs5 i j hi hij hj
theorem St.right (hb : b0 ≤ d0.size) (h : St a0 b0 d0 a b d) {mid : Nat} (ham : a ≤ mid) (hmb : mid < b) (h1 : ∀ i, a ≤ i → i < mid → d[i]! ≤ d[mid]!) (h2 : ∀ i, mid < i → i < b → d[mid]! ≤ d[i]!) :
    Sort.Below ltN (mid + 1) b d ∧ ∀ d5, Sort.PermIn (mid + 1) b d d5 → Sort.SortedIn ltN (mid + 1) b d5 → St a0 b0 d0 a mid d5 := by
  have hs := h.size
  obtain ⟨k1, k2, k3, k4, k5, k6⟩ := h
  refine ⟨.inr fun i hi hib => ?_, fun d5 hp5 hs5 => ?_⟩
  · rw [Nat.add_sub_cancel, ltN_false]
    exact h2 i (by omega) hib
  · have hp5' := Sort.permIn_mono d d5 (mid + 1) b a b (by omega) (Nat.le_refl _) (by omega) hp5
    have hs5' := hp5.1
    have em : ∀ k, k ≤ mid → d5[k]! = d[k]! := fun k hk => hp5.2.1 k (.inl (by omega))
    have hhi : ∀ k, mid + 1 ≤ k → k < b → d[mid]! ≤ d5[k]! := Sort.permIn_all d d5 (mid + 1) b (fun x => d[mid]! ≤ x) (by omega) hp5 (fun k hk hkb => h2 k (by omega) hkb)
    refine ⟨k1, ham, by omega, Sort.permIn_trans _ _ _ _ _ k4 (Sort.permIn_mono d d5 a b a0 b0 k1 k3 (by omega) hp5'), ?_, fun d' hp' hs' => k6 d' (Sort.permIn_trans _ _ _ _ _ hp5' (Sort.permIn_mono d5 d' a mid a b (Nat.le_refl _) (by omega) (by omega) hp')) ?_⟩
    · rcases k5 with h0 | h0
      · exact .inl h0
      · refine .inr fun i hi hib => ?_
        rw [em i (by omega), em (a - 1) (by omega)]
        exact h0 i hi (by omega)
    · have el : ∀ k, mid ≤ k → d'[k]! = d5[k]! := fun k hk => hp'.2.1 k (.inr hk)
      have hlo : ∀ k, a ≤ k → k < mid → d'[k]! ≤ d[mid]! := Sort.permIn_all d5 d' a mid (fun x => x ≤ d[mid]!) (by omega) hp' (fun k hk hkm => by rw [em k (by omega)]; exact h1 k hk hkm)
      refine sorted_parts (mid := mid) (fun i hi him => ?_) (fun i hi hib => ?_) hs' (fun i j hi hij hj => ?_)
      · rw [el mid (Nat.le_refl _), em mid (Nat.le_refl _)]
        exact hlo i hi him
      · rw [el mid (Nat.le_refl _), em mid (Nat.le_refl _), el i (by omega)]
        exact hhi i (by omega) hib
      · rw [el i (by omega), el j (by omega)]
        exact hs5 i j hi hij hj
end
end Go.Proofs.Ytgneigdcgfiooaa
/- pdqsortOrdered and slices.Sort at uint32. -/
namespace Go.Proofs.Ytgneigdcgfiooaa
open Go Go.RowKit Go.Lib

def PdqR (w : World) (g cap a b : Nat) (d : Array Nat) (e : Ending) (w' : World) : Prop := ∃ d', e = .returned (.tuple #[]) ∧ Row w' g cap d' ∧ Sort.PermIn a b d d' ∧ Sort.SortedIn ltN a b d' ∧ Mod [g] w w'
set_option maxRecDepth 100000 in
set_option maxHeartbeats 8000000 in
theorem pdq_any (g cap n : Nat) (hd : n ≤ 1000000) : ∀ (m a0 b0 lim0 : Nat) (d0 : Array Nat) (w : World), b0 - a0 = m → Row w g cap d0 → d0.size = n → a0 ≤ b0 → b0 ≤ n → Sort.Below ltN a0 b0 d0 → lim0 ≤ 1000 →
    Calls Try.prog 32 #[.slice (some ⟨g, 0, none⟩) n cap, .int .i64 (a0 : Int), .int .i64 (b0 : Int), .int .i64 (lim0 : Int)] w (PdqR w g cap a0 b0 d0) := by
  intro m
  induction m using Nat.strongRecOn with
  | ind m ih =>
  intro a0 b0 lim0 d0 w hm hr hn hab hb hbel hlim
  have HIH := Lib.hid ih
  have HR0 := Lib.hid hr
  have HN0 := Lib.hid hn
  have HST0 := Lib.hid (St.start hab hbel)
  have HBS : Hid (b0 ≤ d0.size) := Lib.hid (by rw [hn]; exact hb)
  have HMM := Lib.hid hm
  unfold PdqR at HIH ⊢
  clear ih hr hn hbel hm
  go_enter Try.func32, Try.ntmps32
  go_wp2
  go_loopw [1, 2, 3, 8, 9] (fun s1 s2 s3 s8 s9 wr => ∃ (a b lim : Nat) (wb wp : Bool) (d1 : Array Nat), lim ≤ 1000 ∧ s1 = .int .i64 (a : Int) ∧ s2 = .int .i64 (b : Int) ∧ s3 = .int .i64 (lim : Int) ∧ s8 = .bool wb ∧ s9 = .bool wp ∧ St a0 b0 d0 a b d1 ∧ Row wr g cap d1 ∧ Mod [g] w wr) (fun s1 s2 _ _ _ _ => (RowKit.intOf s2 - RowKit.intOf s1).toNat)
  case atStart => exact ⟨a0, b0, lim0, true, true, d0, hlim, rfl, rfl, rfl, rfl, rfl, HST0.out, HR0.out, Mod.refl _ _⟩
  case round =>
    obtain ⟨a, b, lim, wb, wp, d1, hlim1, rfl, rfl, rfl, rfl, rfl, hSt, hR, hM⟩ := hrel
    have hs1 : d1.size = n := hSt.size.trans HN0.out
    have ha0 := hSt.1
    have hab1 := hSt.2.1
    have hb1 := hSt.2.2.1
    have HST := Lib.hid hSt
    have HR := Lib.hid hR
    have HM := Lib.hid hM
    have HN1 := Lib.hid hs1
    clear hSt hR hM hs1 HR0 HST0
    obtain ⟨l, hl⟩ : ∃ q, b - a = q := ⟨_, rfl⟩
    have el : (b : Int) - (a : Int) = (l : Int) := by omega
    by_cases h12 : l ≤ 12
    · have DG12 : decide ((l : Int) ≤ (12 : Int)) = true := decide_eq_true (by omega)
      have HC := Lib.hid (ins_any g cap n a b d1 wr HR.out HN1.out hab1 (by omega) hd)
      unfold SortR at HC
      go_wp2_with fail
      refine HC.out.mono ?_
      rintro e w2 ⟨rfl, hR2, hm2⟩
      have HR2 := Lib.hid hR2
      have HM2 := Lib.hid (HM.out.trans' hm2)
      clear hR2 hm2
      go_wp2
      first | go_end0 | (refine bodyPost_ret (results_none rfl _ _ _) rfl ?_)
      have hh := Sort.insertionSort_holds ltN_swo d1 a b hab1 (by rw [HN1.out]; omega)
      have hdn := HST.out.done HBS.out hh.1 hh.2
      exact ⟨_, rfl, HR2.out, hdn.1, hdn.2, HM2.out⟩
    · have DG12 : decide ((l : Int) ≤ (12 : Int)) = false := decide_eq_false (by omega)
      by_cases hl0 : lim = 0
      · have DL0 : ((lim : Int) == 0) = true := by subst hl0; rfl
        have HC := Lib.hid (heap_any g cap n a b d1 wr HR.out HN1.out hab1 (by omega) hd)
        unfold SortR at HC
        go_wp2_with fail
        refine HC.out.mono ?_
        rintro e w2 ⟨rfl, hR2, hm2⟩
        have HR2 := Lib.hid hR2
        have HM2 := Lib.hid (HM.out.trans' hm2)
        clear hR2 hm2
        go_wp2
        first | go_end0 | (refine bodyPost_ret (results_none rfl _ _ _) rfl ?_)
        have hh := Sort.heapSort_holds ltN_swo d1 a b hab1 (by rw [HN1.out]; omega)
        have hdn := HST.out.done HBS.out hh.1 hh.2
        exact ⟨_, rfl, HR2.out, hdn.1, hdn.2, HM2.out⟩
      · have DL0 : ((lim : Int) == 0) = false := by rw [beq_eq_false_iff_ne]; omega
        have hablt : a < b := by omega
        go_upto_if 35 with (fail)
        go_cut [3] from 36 to 41 (fun s3 wx => ∃ (d2 : Array Nat) (lim2 : Nat), s3 = .int .i64 (lim2 : Int) ∧ lim2 ≤ 1000 ∧ Row wx g cap d2 ∧ Sort.PermIn a b d1 d2 ∧ Mod [g] wr wx)
        case first =>
          cases wb with
          | true =>
            go_wp2
            go_meet
            exact ⟨d1, lim, rfl, hlim1, HR.out, Sort.permIn_refl d1 a b, Mod.refl _ _⟩
          | false =>
            have HC := Lib.hid (break_any g cap n a b d1 wr HR.out HN1.out hab1 (by omega) hd)
            obtain ⟨lm, hlm⟩ : ∃ q, lim - 1 = q := ⟨_, rfl⟩
            have elm : (lim : Int) - 1 = (lm : Int) := by omega
            go_wp2_with fail
            refine HC.out.mono ?_
            rintro e w2 ⟨d2, rfl, hR2, hp2, hm2⟩
            go_wp2
            go_meet
            exact ⟨d2, lm, by first | rfl | (congr 1; omega), by omega, hR2, hp2, hm2⟩
        rename World => w2
        obtain ⟨d2, lim2, rfl, hlim2, hR2, hp2, hm2⟩ := hcut
        have HST2 := Lib.hid (HST.out.perm HBS.out hp2)
        have HR2 := Lib.hid hR2
        have HM2 := Lib.hid (HM.out.trans' hm2)
        have HN2 : Hid (d2.size = n) := Lib.hid (hp2.1.trans HN1.out)
        clear hR2 hp2 hm2 HST HR HM HN1
        have HC := Lib.hid (choose_any g cap n a b d2 w2 HR2.out HN2.out hablt (by omega) hd)
        go_wp2_with fail
        refine HC.out.mono ?_
        rintro e w3 ⟨p, h, rfl, hap, hpb, hh2, hR3, hm3⟩
        have HR3 := Lib.hid hR3
        have HM3 := Lib.hid (HM2.out.trans0 hm3)
        clear hR3 hm3 HC HR2 HM2
        go_upto_if 50 with (fail)
        go_cut [11, 12] from 50 to 60 (fun s11 s12 wx => ∃ (d3 : Array Nat) (p3 h3 : Nat), s11 = .int .i64 (p3 : Int) ∧ s12 = .int .i64 (h3 : Int) ∧ a ≤ p3 ∧ p3 < b ∧ Row wx g cap d3 ∧ Sort.PermIn a b d2 d3 ∧ Mod [g] w3 wx)
        case first =>
          by_cases hh : h = 2
          · subst hh
            have HC := Lib.hid (rev_any g cap n a b d2 w3 HR3.out HN2.out hablt (by omega) hd)
            unfold SortR at HC
            go_wp2_with fail
            refine HC.out.mono ?_
            rintro e w4 ⟨rfl, hR4, hm4⟩
            go_wp2
            go_meet
            refine ⟨_, (b - 1) - (p - a), 1, by first | rfl | (congr 1; omega), rfl, by omega, by omega, hR4, Sort.reverseRange_holds d2 a b hab1 (by rw [HN2.out]; omega), hm4⟩
          · have DH : ((h : Int) == 2) = false := by rw [beq_eq_false_iff_ne]; omega
            simp only [DH]
            go_wp2
            go_meet
            exact ⟨d2, p, h, rfl, rfl, hap, hpb, HR3.out, Sort.permIn_refl d2 a b, Mod.refl _ _⟩
        rename World => w4
        obtain ⟨d3, p3, h3, rfl, rfl, hap3, hpb3, hR4, hp4, hm4⟩ := hcut
        have HST4 := Lib.hid (HST2.out.perm HBS.out hp4)
        have HR4 := Lib.hid hR4
        have HM4 := Lib.hid (HM3.out.trans' hm4)
        have HN4 : Hid (d3.size = n) := Lib.hid (hp4.1.trans HN2.out)
        clear hR4 hp4 hm4 HST2 HR3 HM3 HN2
        go_upto_region 15 with (fail)
        go_cut [68] from 61 to 68 (fun s wx => (∃ q : Bool, s = .bool q) ∧ wx = w4)
        case first =>
          obtain ⟨z1, hz1⟩ : ∃ q, ((h3 : Int) == 1) = q := ⟨_, rfl⟩
          cases wb <;> cases wp <;> (go_wp2; go_meet; exact ⟨⟨_, rfl⟩, rfl⟩)
        rename World => w5
        obtain ⟨⟨q, rfl⟩, rfl⟩ := hcut
        go_upto_if 68 with (fail)
        go_cut [72] from 68 to 72 (fun _ wx => ∃ d4 : Array Nat, Row wx g cap d4 ∧ Sort.PermIn a b d3 d4 ∧ Mod [g] w5 wx)
        case first =>
          cases q with
          | true =>
            have HC := Lib.hid (pins_any g cap n a b d3 w5 HR4.out HN4.out hablt (by omega) hd)
            have hh := Sort.partialInsertionSort_holds ltN_swo d3 a b hablt (by rw [HN4.out]; omega) HST4.out.2.2.2.2.1
            obtain ⟨⟨d4, ok⟩, hr⟩ : ∃ x, Sort.partialInsertionSort ltN d3 a b = x := ⟨_, rfl⟩
            rw [hr] at HC hh
            dsimp only at HC hh
            have HH := Lib.hid hh
            clear hh hr
            go_wp2_with fail
            refine HC.out.mono ?_
            rintro e w6 ⟨rfl, hR6, hm6⟩
            have HR6 := Lib.hid hR6
            have HM6 := Lib.hid hm6
            clear hR6 hm6 HC
            cases ok with
            | true =>
              go_wp2
              first | go_end0 | (refine bodyPost_ret (results_none rfl _ _ _) rfl ?_)
              have hdn := HST4.out.done HBS.out HH.out.1 (HH.out.2 (by first | rfl | trivial))
              exact ⟨_, rfl, HR6.out, hdn.1, hdn.2, HM4.out.trans' HM6.out⟩
            | false =>
              go_wp2
              go_meet
              exact ⟨d4, HR6.out, HH.out.1, HM6.out⟩
          | false =>
            go_wp2
            go_meet
            exact ⟨d3, HR4.out, Sort.permIn_refl d3 a b, Mod.refl _ _⟩
        rename World => w6
        obtain ⟨d4, hR6, hp6, hm6⟩ := hcut
        have HST6 := Lib.hid (HST4.out.perm HBS.out hp6)
        have HR6 := Lib.hid hR6
        have HM6 := Lib.hid (HM4.out.trans' hm6)
        have HN6 : Hid (d4.size = n) := Lib.hid (hp6.1.trans HN4.out)
        clear hR6 hp6 hm6 HST4 HR4 HM4 HN4
        obtain ⟨am, ham⟩ : ∃ q, a - 1 = q := ⟨_, rfl⟩
        have Bp3 : (p3 : Int) < (n : Int) := by omega
        obtain ⟨blAc, hblAc⟩ : ∃ q, (decide (0 < a) && !ltN (d4)[am]! (d4)[p3]!) = q := ⟨_, rfl⟩
        have HCA := Lib.hid hblAc
        clear hblAc
        go_upto_region 17 with (fail)
        go_cut [87] from 73 to 88 (fun s wx => s = .bool blAc ∧ Mod [] w6 wx)
        case first =>
          by_cases hgA : 0 < a
          · have DGA : decide (0 < a) = true := decide_eq_true (by omega)
            have eam : IntKind.i64.wrap ((a : Int) - 1) = (am : Int) := by rw [show (a : Int) - 1 = (am : Int) by omega]; exact IntWalk.i64_in _ (by omega)
            have Bam : (am : Int) < (n : Int) := by omega
            have DGz : decide ((0 : Int) < (a : Int)) = true := decide_eq_true (by omega)
            obtain ⟨xA, hxA⟩ : ∃ q, (d4)[am]! = q := ⟨_, rfl⟩
            obtain ⟨yA, hyA⟩ : ∃ q, (d4)[p3]! = q := ⟨_, rfl⟩
            have CXA := Lib.hid (HR6.out.cell (i := am) (by rw [HN6.out]; omega) hxA)
            have CYA := Lib.hid (HR6.out.cell (i := p3) (by rw [HN6.out]; omega) hyA)
            obtain ⟨blA, hblA⟩ : ∃ q, ltN xA yA = q := ⟨_, rfl⟩
            have HLA := Lib.hid (less_any xA yA blA hblA)
            have HBA : Hid (ltN (d4)[am]! (d4)[p3]! = blA) := Lib.hid (by rw [hxA, hyA]; exact hblA)
            clear hxA hyA hblA
            refine rest_start [] 15 #[false, false, false, false, false, false, false, false, false, false, false, false, false, false, false] rfl (by kernel_rfl) (by kernel_rfl) ?_
            intro uA mA
            have CXA6 := Lib.hid (mA.cell CXA.out List.not_mem_nil)
            have CYA6 := Lib.hid (mA.cell CYA.out List.not_mem_nil)
            have NA := Lib.hid mA
            have HLA6 := Lib.hid (HLA.out uA)
            clear mA
            refine rest_got (i := 0) (v := ?v1) rfl (by kernel_rfl) (by kernel_rfl) (by kernel_rfl) (fun _ _ _ h => h) (by rfl) ?y1 ?r1
            case y1 => (intro w9q hSwq; clear hSwq; go_simp; with_reducible rfl)
            try simp only [Act.put, List.setIfInBounds_toArray, List.set_cons_zero, List.set_cons_succ]
            refine rest_got (i := 1) (v := ?v2) rfl (by kernel_rfl) (by kernel_rfl) (by kernel_rfl) (fun _ _ _ h => h) (by rfl) ?y2 ?r2
            case y2 => (intro w9q hSwq; clear hSwq; go_simp; with_reducible rfl)
            try simp only [Act.put, List.setIfInBounds_toArray, List.set_cons_zero, List.set_cons_succ]
            refine rest_got (i := 2) (v := ?v3) rfl (by kernel_rfl) (by kernel_rfl) (by kernel_rfl) (fun _ _ _ h => h) (by rfl) ?y3 ?r3
            case y3 => (intro w9q hSwq; clear hSwq; go_simp; with_reducible rfl)
            try simp only [Act.put, List.setIfInBounds_toArray, List.set_cons_zero, List.set_cons_succ]
            refine rest_got (i := 3) (v := ?v4) rfl (by kernel_rfl) (by kernel_rfl) (by kernel_rfl) (fun _ _ _ h => h) (by rfl) ?y4 ?r4
            case y4 => (intro w9q hSwq; clear hSwq; go_simp; with_reducible rfl)
            try simp only [Act.put, List.setIfInBounds_toArray, List.set_cons_zero, List.set_cons_succ]
            refine rest_got (i := 4) (v := ?v5) rfl (by kernel_rfl) (by kernel_rfl) (by kernel_rfl) (fun _ _ _ h => h) (by rfl) ?y5 ?r5
            case y5 => (intro w9q hSwq; clear hSwq; go_simp; with_reducible rfl)
            try simp only [Act.put, List.setIfInBounds_toArray, List.set_cons_zero, List.set_cons_succ]
            refine rest_got (i := 5) (v := ?v6) rfl (by kernel_rfl) (by kernel_rfl) (by kernel_rfl) (fun _ _ _ h => h) (by rfl) ?y6 ?r6
            case y6 => (intro w9q hSwq; clear hSwq; go_simp; with_reducible rfl)
            try simp only [Act.put, List.setIfInBounds_toArray, List.set_cons_zero, List.set_cons_succ]
            refine rest_got (i := 6) (v := ?v7) rfl (by kernel_rfl) (by kernel_rfl) (by kernel_rfl) (fun _ _ _ h => h) (by rfl) ?y7 ?r7
            case y7 => (intro w9q hSwq; clear hSwq; go_simp; with_reducible rfl)
            try simp only [Act.put, List.setIfInBounds_toArray, List.set_cons_zero, List.set_cons_succ]
            refine rest_got (i := 7) (v := ?v8) rfl (by kernel_rfl) (by kernel_rfl) (by kernel_rfl) (fun _ _ _ h => h) (by rfl) ?y8 ?r8
            case y8 => ((intro w9' hm9'; have hc9' := Mod.cell hm9' CXA6.out (by first | exact List.not_mem_nil | assumption | (simp; done) | (simp; omega)); clear hm9'; go_simp; with_reducible rfl))
            try simp only [Act.put, List.setIfInBounds_toArray, List.set_cons_zero, List.set_cons_succ]
            refine rest_got (i := 8) (v := ?v9) rfl (by kernel_rfl) (by kernel_rfl) (by kernel_rfl) (fun _ _ _ h => h) (by rfl) ?y9 ?r9
            case y9 => (intro w9q hSwq; clear hSwq; go_simp; with_reducible rfl)
            try simp only [Act.put, List.setIfInBounds_toArray, List.set_cons_zero, List.set_cons_succ]
            refine rest_got (i := 9) (v := ?v10) rfl (by kernel_rfl) (by kernel_rfl) (by kernel_rfl) (fun _ _ _ h => h) (by rfl) ?y10 ?r10
            case y10 => (intro w9q hSwq; clear hSwq; go_simp; with_reducible rfl)
            try simp only [Act.put, List.setIfInBounds_toArray, List.set_cons_zero, List.set_cons_succ]
            refine rest_got (i := 10) (v := ?v11) rfl (by kernel_rfl) (by kernel_rfl) (by kernel_rfl) (fun _ _ _ h => h) (by rfl) ?y11 ?r11
            case y11 => (intro w9q hSwq; clear hSwq; go_simp; with_reducible rfl)
            try simp only [Act.put, List.setIfInBounds_toArray, List.set_cons_zero, List.set_cons_succ]
            refine rest_got (i := 11) (v := ?v12) rfl (by kernel_rfl) (by kernel_rfl) (by kernel_rfl) (fun _ _ _ h => h) (by rfl) ?y12 ?r12
            case y12 => ((intro w9' hm9'; have hc9' := Mod.cell hm9' CYA6.out (by first | exact List.not_mem_nil | assumption | (simp; done) | (simp; omega)); clear hm9'; go_simp; with_reducible rfl))
            try simp only [Act.put, List.setIfInBounds_toArray, List.set_cons_zero, List.set_cons_succ]
            refine rest_one (i := 12) (by kernel_rfl) rfl (by rfl) ?_
            go_wp2_with fail
            refine HLA6.out.mono ?_
            rintro e wA ⟨rfl, rfl⟩
            go_wp2_with fail
            refine back_to (K1 := []) (Mod.refl _ _) (by simp) ?_
            clear HLA6 CXA6 CYA6
            refine rest_got (i := 13) (v := ?v13) rfl (by kernel_rfl) (by kernel_rfl) (by kernel_rfl) (fun _ _ _ h => h) (by rfl) ?y13 ?r13
            case y13 => (intro w9q hSwq; clear hSwq; go_simp; with_reducible rfl)
            try simp only [Act.put, List.setIfInBounds_toArray, List.set_cons_zero, List.set_cons_succ]
            refine rest_got (i := 14) (v := ?v14) rfl (by kernel_rfl) (by kernel_rfl) (by kernel_rfl) (fun _ _ _ h => h) (by rfl) ?y14 ?r14
            case y14 => (intro w9q hSwq; clear hSwq; go_simp; with_reducible rfl)
            try simp only [Act.put, List.setIfInBounds_toArray, List.set_cons_zero, List.set_cons_succ]
            refine rest_done (by kernel_rfl) ?_ _
            have RA := Lib.hid (HR6.out.mod0 NA.out)
            have MA := Lib.hid NA.out
            clear NA CXA CYA HLA
            go_wp2
            go_meet
            exact ⟨by rw [← HCA.out, HBA.out, decide_eq_true hgA]; cases blA <;> rfl, MA.out⟩
          · have DGA : decide (0 < a) = false := decide_eq_false (by omega)
            have DGz : decide ((0 : Int) < (a : Int)) = false := decide_eq_false (by omega)
            refine rest_start [] 15 #[false, false, false, false, false, false, false, false, false, false, false, false, false, false, false] rfl (by kernel_rfl) (by kernel_rfl) ?_
            intro uA mA
            have NA := Lib.hid mA
            clear mA
            refine rest_got (i := 0) (v := ?v15) rfl (by kernel_rfl) (by kernel_rfl) (by kernel_rfl) (fun _ _ _ h => h) (by rfl) ?y15 ?r15
            case y15 => (intro w9q hSwq; clear hSwq; go_simp; with_reducible rfl)
            try simp only [Act.put, List.setIfInBounds_toArray, List.set_cons_zero, List.set_cons_succ]
            refine rest_got (i := 1) (v := ?v16) rfl (by kernel_rfl) (by kernel_rfl) (by kernel_rfl) (fun _ _ _ h => h) (by rfl) ?y16 ?r16
            case y16 => (intro w9q hSwq; clear hSwq; go_simp; with_reducible rfl)
            try simp only [Act.put, List.setIfInBounds_toArray, List.set_cons_zero, List.set_cons_succ]
            refine rest_got (i := 2) (v := ?v17) rfl (by kernel_rfl) (by kernel_rfl) (by kernel_rfl) (fun _ _ _ h => h) (by rfl) ?y17 ?r17
            case y17 => (intro w9q hSwq; clear hSwq; go_simp; with_reducible rfl)
            try simp only [Act.put, List.setIfInBounds_toArray, List.set_cons_zero, List.set_cons_succ]
            refine rest_skip (i := 3) rfl (by kernel_rfl) (by kernel_rfl) (by kernel_rfl) (fun _ _ _ h => h) (by rfl) ?_
            try simp only [Act.put, List.setIfInBounds_toArray, List.set_cons_zero, List.set_cons_succ]
            refine rest_skip (i := 4) rfl (by kernel_rfl) (by kernel_rfl) (by kernel_rfl) (fun _ _ _ h => h) (by rfl) ?_
            try simp only [Act.put, List.setIfInBounds_toArray, List.set_cons_zero, List.set_cons_succ]
            refine rest_skip (i := 5) rfl (by kernel_rfl) (by kernel_rfl) (by kernel_rfl) (fun _ _ _ h => h) (by rfl) ?_
            try simp only [Act.put, List.setIfInBounds_toArray, List.set_cons_zero, List.set_cons_succ]
            refine rest_skip (i := 6) rfl (by kernel_rfl) (by kernel_rfl) (by kernel_rfl) (fun _ _ _ h => h) (by rfl) ?_
            try simp only [Act.put, List.setIfInBounds_toArray, List.set_cons_zero, List.set_cons_succ]
            refine rest_skip (i := 7) rfl (by kernel_rfl) (by kernel_rfl) (by kernel_rfl) (fun _ _ _ h => h) (by rfl) ?_
            try simp only [Act.put, List.setIfInBounds_toArray, List.set_cons_zero, List.set_cons_succ]
            refine rest_skip (i := 8) rfl (by kernel_rfl) (by kernel_rfl) (by kernel_rfl) (fun _ _ _ h => h) (by rfl) ?_
            try simp only [Act.put, List.setIfInBounds_toArray, List.set_cons_zero, List.set_cons_succ]
            refine rest_skip (i := 9) rfl (by kernel_rfl) (by kernel_rfl) (by kernel_rfl) (fun _ _ _ h => h) (by rfl) ?_
            try simp only [Act.put, List.setIfInBounds_toArray, List.set_cons_zero, List.set_cons_succ]
            refine rest_skip (i := 10) rfl (by kernel_rfl) (by kernel_rfl) (by kernel_rfl) (fun _ _ _ h => h) (by rfl) ?_
            try simp only [Act.put, List.setIfInBounds_toArray, List.set_cons_zero, List.set_cons_succ]
            refine rest_skip (i := 11) rfl (by kernel_rfl) (by kernel_rfl) (by kernel_rfl) (fun _ _ _ h => h) (by rfl) ?_
            try simp only [Act.put, List.setIfInBounds_toArray, List.set_cons_zero, List.set_cons_succ]
            refine rest_skip (i := 12) rfl (by kernel_rfl) (by kernel_rfl) (by kernel_rfl) (fun _ _ _ h => h) (by rfl) ?_
            try simp only [Act.put, List.setIfInBounds_toArray, List.set_cons_zero, List.set_cons_succ]
            refine rest_skip (i := 13) rfl (by kernel_rfl) (by kernel_rfl) (by kernel_rfl) (fun _ _ _ h => h) (by rfl) ?_
            try simp only [Act.put, List.setIfInBounds_toArray, List.set_cons_zero, List.set_cons_succ]
            refine rest_got (i := 14) (v := ?v18) rfl (by kernel_rfl) (by kernel_rfl) (by kernel_rfl) (fun _ _ _ h => h) (by rfl) ?y18 ?r18
            case y18 => (intro w9q hSwq; clear hSwq; go_simp; with_reducible rfl)
            try simp only [Act.put, List.setIfInBounds_toArray, List.set_cons_zero, List.set_cons_succ]
            refine rest_done (by kernel_rfl) ?_ _
            go_wp2
            go_meet
            exact ⟨by rw [← HCA.out, decide_eq_false hgA]; rfl, NA.out⟩
        rename World => wAc
        obtain ⟨rfl, hmAc⟩ := hcut
        have MCA := Lib.hid hmAc
        have RCA := Lib.hid (HR6.out.mod0 hmAc)
        clear hmAc
        cases blAc with
        | true =>
          have hc := HCA.out
          rw [Bool.and_eq_true, decide_eq_true_eq, Bool.not_eq_true'] at hc
          have hse := HST6.out.eq HBS.out hap3 hpb3 hc.1 (by rw [ham]; exact hc.2)
          have HC := Lib.hid (partEq_any g cap n a b p3 d4 wAc RCA.out HN6.out hap3 hpb3 (by omega) hd)
          obtain ⟨⟨mid, d5⟩, hr⟩ : ∃ x, Sort.partitionEqual ltN d4 a b p3 = x := ⟨_, rfl⟩
          rw [hr] at HC hse
          dsimp only at HC hse
          have HSE := Lib.hid hse
          clear hse hr hc HCA
          go_wp2_with fail
          refine HC.out.mono ?_
          rintro e w7 ⟨rfl, hR7, hm7⟩
          have HR7 := Lib.hid hR7
          have HM7 := Lib.hid ((HM6.out.trans0 MCA.out).trans' hm7)
          clear hR7 hm7 HC
          go_wp2
          go_roundw
          case rel => exact ⟨mid, b, lim2, wb, wp, d5, hlim2, rfl, rfl, rfl, rfl, rfl, HSE.out.2.2, HR7.out, HM7.out⟩
          case measure =>
            have := HSE.out
            simp [RowKit.intOf]
            omega
        | false =>
          have HC := Lib.hid (part_any g cap n a b p3 d4 wAc RCA.out HN6.out hap3 hpb3 (by omega) hd)
          obtain ⟨⟨mid, al, d5⟩, hr⟩ : ∃ x, Sort.partition ltN d4 a b p3 = x := ⟨_, rfl⟩
          have hpt := HST6.out.part HBS.out hap3 hpb3 hr
          rw [hr] at HC
          dsimp only at HC
          obtain ⟨hm1, hm2, hst5, hlow, hhigh⟩ := hpt
          have HST5 := Lib.hid hst5
          have HN5 : Hid (d5.size = n) := Lib.hid (hst5.size.trans HN0.out)
          have HLO := Lib.hid hlow
          have HHI := Lib.hid hhigh
          clear hst5 hlow hhigh hr HCA
          obtain ⟨ll, hll⟩ : ∃ q, mid - a = q := ⟨_, rfl⟩
          obtain ⟨rl, hrl⟩ : ∃ q, b - mid = q := ⟨_, rfl⟩
          obtain ⟨th, hth⟩ : ∃ q, l / 8 = q := ⟨_, rfl⟩
          have ell : (mid : Int) - (a : Int) = (ll : Int) := by omega
          have erl : (b : Int) - (mid : Int) = (rl : Int) := by omega
          have eth : Int.tdiv (l : Int) 8 = (th : Int) := by subst hth; rfl
          go_wp2_with fail
          refine HC.out.mono ?_
          rintro e w7 ⟨rfl, hR7, hm7⟩
          have HR7 := Lib.hid hR7
          have HM7 := Lib.hid ((HM6.out.trans0 MCA.out).trans' hm7)
          clear hR7 hm7 HC
          by_cases hlr : ll < rl
          · have DLR : decide (ll < rl) = true := decide_eq_true hlr
            have DLR2 : decide ((ll : Int) < (rl : Int)) = true := decide_eq_true (by omega)
            have hlf := HST5.out.left HBS.out hm1 hm2 HLO.out HHI.out
            have HC := Lib.hid (HIH.out (mid - a) (by have := HMM.out; omega) a mid lim2 d5 w7 rfl HR7.out HN5.out hm1 (by omega) hlf.1 hlim2)
            have HLF := Lib.hid hlf.2
            clear hlf
            go_wp2_with fail
            refine HC.out.mono ?_
            rintro e w8 ⟨d6, rfl, hR8, hp8, hs8, hm8⟩
            have HST8 := Lib.hid (HLF.out d6 hp8 hs8)
            have HR8 := Lib.hid hR8
            have HM8 := Lib.hid (HM7.out.trans' hm8)
            clear hR8 hp8 hs8 hm8 HC
            go_wp2
            go_roundw
            case rel => exact ⟨mid + 1, b, lim2, _, al, d6, hlim2, by go_num, rfl, rfl, rfl, rfl, HST8.out, HR8.out, HM8.out⟩
            case measure => first | (simp [RowKit.intOf]; done) | (simp [RowKit.intOf]; omega)
          · have DLR : decide (ll < rl) = false := decide_eq_false hlr
            have DLR2 : decide ((ll : Int) < (rl : Int)) = false := decide_eq_false (by omega)
            have hlf := HST5.out.right HBS.out hm1 hm2 HLO.out HHI.out
            obtain ⟨m1, hmm1⟩ : ∃ q, mid + 1 = q := ⟨_, rfl⟩
            have em1 : (mid : Int) + 1 = (m1 : Int) := by omega
            rw [hmm1] at hlf
            have HC := Lib.hid (HIH.out (b - m1) (by have := HMM.out; omega) m1 b lim2 d5 w7 rfl HR7.out HN5.out (by omega) (by omega) hlf.1 hlim2)
            have HLF := Lib.hid hlf.2
            clear hlf
            go_wp2_with fail
            refine HC.out.mono ?_
            rintro e w8 ⟨d6, rfl, hR8, hp8, hs8, hm8⟩
            have HST8 := Lib.hid (HLF.out d6 hp8 hs8)
            have HR8 := Lib.hid hR8
            have HM8 := Lib.hid (HM7.out.trans' hm8)
            clear hR8 hp8 hs8 hm8 HC
            go_wp2
            go_roundw
            case rel => exact ⟨a, mid, lim2, _, al, d6, hlim2, rfl, rfl, rfl, rfl, rfl, HST8.out, HR8.out, HM8.out⟩
            case measure => first | (simp [RowKit.intOf]; done) | (simp [RowKit.intOf]; omega)
theorem extract_all {d d' : Array Nat} (h : Sort.PermIn 0 d.size d d') : d'.toList.Perm d.toList := by
  have h1 := h.2.2
  have e1 : (d.extract 0 d.size).toList = d.toList := by simp
  have e2 : (d'.extract 0 d.size).toList = d'.toList := by rw [← h.1]; simp
  rw [e1, e2] at h1
  exact h1
set_option maxRecDepth 100000 in
set_option maxHeartbeats 2000000 in
theorem sort32_any (g cap n : Nat) (d : Array Nat) (w : World) (hr : Row w g cap d) (hn : d.size = n) (h0 : 0 < n) (hd : n ≤ 1000000) :
    Calls Try.prog 24 #[.slice (some ⟨g, 0, none⟩) n cap] w fun e w' => ∃ d', e = .returned (.tuple #[]) ∧ Row w' g cap d' ∧ d'.toList.Perm d.toList ∧ Sort.SortedIn ltN 0 n d' ∧ Mod [g] w w' := by
  have HL := Lib.hid (Try.bits_Len (n : Int) w (by omega) (by omega))
  have HB := Lib.hid (bitLen_pow n h0 hd)
  obtain ⟨k, hk⟩ : ∃ k, Lib.bitLen n = k := ⟨_, rfl⟩
  have e1 : Lib.bitLen ((n : Int).toNat) = k := by rw [Int.toNat_natCast]; exact hk
  rw [e1] at HL
  have HK : Hid (k ≤ 1000) := Lib.hid (by have := HB.out.2.2; omega)
  have HP := Lib.hid (pdq_any g cap n hd (n - 0) 0 n k d w rfl hr hn (Nat.zero_le _) (Nat.le_refl _) (.inl rfl) HK.out)
  have HN := Lib.hid hn
  unfold PdqR at HP
  clear hr hn HB hk e1
  go_enter Try.func24, Try.ntmps24
  go_wp2_with fail
  refine HL.out.mono ?_
  rintro e w1 ⟨rfl, rfl⟩
  go_wp2_with fail
  refine HP.out.mono ?_
  rintro e w2 ⟨d2, rfl, hR, hp, hs, hm⟩
  have HR := Lib.hid hR
  have HPP := Lib.hid hp
  have HS := Lib.hid hs
  have HM := Lib.hid hm
  clear hR hp hs hm
  go_wp2
  first | go_end0 | (refine bodyPost_ret (results_none rfl _ _ _) rfl ?_)
  exact ⟨d2, rfl, HR.out, extract_all (by rw [HN.out]; exact HPP.out), HS.out, HM.out⟩
end Go.Proofs.Ytgneigdcgfiooaa
/- The walks of varint.Int and varint.Text. -/
namespace Go.Proofs.Ytgneigdcgfiooaa
open Go Go.RowKit

set_option maxHeartbeats 1000000 in
theorem vtext_any (ao : Option Addr) (len cap : Nat) (s : ByteArray) (xs : List UInt8) (w : World) (hlen : xs.length = len) (hown : OwnB w ao cap xs) (hb : len ≤ 140737400000000) (hs : s.size ≤ 1000000) :
    Calls Try.prog 25 #[.slice ao len cap, .string s] w (RetApp w ao (xs ++ enc7 s.size ++ s.data.toList)) := by
  have HO := Lib.hid hown
  have hl11 := (enc7_length s.size).2
  clear hown
  go_enter Try.func25, Try.ntmps25
  go_wp2_with fail
  refine (vuint_any _ _ _ _ xs _ hlen HO.out (by omega) (by omega)).mono ?_
  rintro e w2 ⟨a2, k2, c2, rfl, hk2, o2, m2, n2⟩
  have hkb : k2 ≤ 140737400000011 := by rw [← hk2]; simp; omega
  have HK := Lib.hid hk2
  have HO2 := Lib.hid o2
  have HM := Lib.hid m2
  have HN := Lib.hid n2
  clear o2 m2 n2 hk2
  go_wp2_with (at_builtin; refine wpl_app8s _ _ a2 k2 c2 (xs ++ enc7 s.size) rfl HK.out HO2.out s rfl (by omega) ?_; intro a3 c3 w3 o3 m3 n3)
  go_ret
  exact RetApp.chain HM.out HN.out ⟨a3, _, c3, rfl, by rw [List.length_append, HK.out, size_data], o3, m3, n3⟩
end Go.Proofs.Ytgneigdcgfiooaa
/- The walks of the varint package's reader: what it holds, what it reads. -/
namespace Go.Proofs.Ytgneigdcgfiooaa
open Go Go.RowKit

/-- A reader at block g: its error, the bytes that are left (in a block of bs), its limit. -/
def Rd (w : World) (g : Nat) (bs : List Nat) (e : Int) (l : List UInt8) (lim : Int) : Prop :=
  g ∉ bs ∧ ∃ ao cap, w.heap[g]? = some (.cells #[.int .i64 e, .slice ao l.length cap, .int .i64 lim] 59 (0, 0)) ∧
    l.length ≤ cap ∧ cap ≤ 9223372036854775807 ∧ Sees w ao l ∧ (l ≠ [] → ∀ k, k ∈ blk ao → k ∈ bs)

/-- Bytes that are seen stay seen where the blocks that are turned are none of theirs. -/
theorem Sees.mod' {S : List Nat} {w w' : World} {ao : Option Addr} {l : List UInt8} (h : Sees w ao l) (hm : Mod S w w') (hn : l ≠ [] → ∀ k, k ∈ blk ao → k ∉ S) : Sees w' ao l := by
  cases l with
  | nil => exact Sees.nil _ _
  | cons c r => exact h.mod hm (fun b off hb => hn (by simp) b (by subst hb; simp [blk]))
theorem Sees.lt {w : World} {ao : Option Addr} {l : List UInt8} (h : Sees w ao l) (h0 : l ≠ []) : ∀ k, k ∈ blk ao → k < w.heap.size := by
  intro k hk
  obtain ⟨b, off, rfl, h2⟩ := h 0 (List.length_pos_iff.2 h0)
  simp only [blk, List.mem_singleton] at hk
  subst hk
  exact World.block_lt_of_cell? w _ h2
/-- The block of bytes that are seen. -/
def blkOf (ao : Option Addr) (l : List UInt8) : List Nat := if l = [] then [] else blk ao
theorem mem_blkOf {ao : Option Addr} {l : List UInt8} {k : Nat} (h : k ∈ blkOf ao l) : l ≠ [] ∧ k ∈ blk ao := by
  unfold blkOf at h
  split at h
  · simp at h
  · rename_i h0; exact ⟨h0, h⟩
theorem blkOf_mem {ao : Option Addr} {l : List UInt8} (h : l ≠ []) : ∀ k, k ∈ blk ao → k ∈ blkOf ao l := by
  intro k hk; unfold blkOf; rw [if_neg h]; exact hk
theorem Sees.ltOf {w : World} {ao : Option Addr} {l : List UInt8} (h : Sees w ao l) : ∀ k, k ∈ blkOf ao l → k < w.heap.size := fun k hk => h.lt (mem_blkOf hk).1 k (mem_blkOf hk).2
theorem Rd.mod {S : List Nat} {w w' : World} {g : Nat} {bs : List Nat} {e : Int} {l : List UInt8} {lim : Int} (h : Rd w g bs e l lim) (hm : Mod S w w') (hg : g ∉ S) (hb : ∀ k, k ∈ bs → k ∉ S) : Rd w' g bs e l lim := by
  obtain ⟨h1, ao, cap, h2, h3, h4, h5, h6⟩ := h
  exact ⟨h1, ao, cap, hm.get h2 hg, h3, h4, h5.mod' hm (fun h0 k hk => hb k (h6 h0 k hk)), h6⟩
theorem Rd.mod0 {w w' : World} {g : Nat} {bs : List Nat} {e : Int} {l : List UInt8} {lim : Int} (h : Rd w g bs e l lim) (hm : Mod [] w w') : Rd w' g bs e l lim := h.mod hm (by simp) (by simp)
theorem Rd.lt {w : World} {g : Nat} {bs : List Nat} {e : Int} {l : List UInt8} {lim : Int} (h : Rd w g bs e l lim) : g < w.heap.size := by
  obtain ⟨h1, ao, cap, h2, _⟩ := h
  exact lt_of_block h2
/-- The error is set. -/
theorem Rd.err {w : World} {g : Nat} {bs : List Nat} {e : Int} {l : List UInt8} {lim : Int} (h : Rd w g bs e l lim) (e' : Int) : Rd (w.setCell ⟨g, 0, none⟩ (.int .i64 e')) g bs e' l lim := by
  obtain ⟨h1, ao, cap, h2, h3, h4, h5, h6⟩ := h
  refine ⟨h1, ao, cap, ?_, h3, h4, h5.mod' (Mod.setCell (S := [g]) w ⟨g, 0, none⟩ _ (by simp)) (fun h0 k hk hg => h1 (by simp only [List.mem_singleton] at hg; subst hg; exact h6 h0 _ hk)), h6⟩
  rw [heap_setCell_same h2]; rfl
/-- Bytes are passed. -/
theorem Rd.pass {w : World} {g : Nat} {bs : List Nat} {e : Int} {l l' : List UInt8} {lim : Int} (h : Rd w g bs e l lim) {ao : Option Addr} {cap n : Nat} (hl : l'.length = n) (hc : n ≤ cap) (hm : cap ≤ 9223372036854775807) (hs : Sees w ao l') (hb : l' ≠ [] → ∀ k, k ∈ blk ao → k ∈ bs) :
    Rd (w.setCell ⟨g, 1, none⟩ (.slice ao n cap)) g bs e l' lim := by
  subst hl
  obtain ⟨h1, ao0, cap0, h2, h3, h4, h5, h6⟩ := h
  refine ⟨h1, ao, cap, ?_, hc, hm, hs.mod' (Mod.setCell (S := [g]) w ⟨g, 1, none⟩ _ (by simp)) (fun h0 k hk hg => h1 (by simp only [List.mem_singleton] at hg; subst hg; exact hb h0 _ hk)), hb⟩
  rw [heap_setCell_same h2]; rfl
theorem Sees.drop {w : World} {b off : Nat} {l : List UInt8} (h : Sees w (some ⟨b, off, none⟩) l) (k : Nat) : Sees w (some ⟨b, off + k, none⟩) (l.drop k) := by
  intro j hj
  have hj' : k + j < l.length := by simp only [List.length_drop] at hj; omega
  obtain ⟨b', off', h1, h2⟩ := h (k + j) hj'
  cases h1
  exact ⟨b, off + k, rfl, by rw [List.getElem_drop, Nat.add_assoc]; exact h2⟩
theorem Sees.drop1 {w : World} {b off : Nat} {c : UInt8} {l : List UInt8} (h : Sees w (some ⟨b, off, none⟩) (c :: l)) : Sees w (some ⟨b, off + 1, none⟩) l := h.drop 1
/-- What a walk needs of it. -/
theorem Rd.open {w : World} {g : Nat} {bs : List Nat} {e : Int} {l : List UInt8} {lim : Int} (h : Rd w g bs e l lim) :
    ∃ ao cap, w.cell? ⟨g, 0, none⟩ = some (.int .i64 e) ∧ w.cell? ⟨g, 1, none⟩ = some (.slice ao l.length cap) ∧ w.cell? ⟨g, 2, none⟩ = some (.int .i64 lim) ∧
      (∀ i, w.frozen? ⟨g, i, none⟩ = false) ∧ l.length ≤ cap ∧ cap ≤ 9223372036854775807 ∧ Sees w ao l ∧ (l ≠ [] → ∀ k, k ∈ blk ao → k ∈ bs) := by
  obtain ⟨h1, ao, cap, h2, h3, h4, h5, h6⟩ := h
  exact ⟨ao, cap, by rw [cell_of_block h2]; rfl, by rw [cell_of_block h2]; rfl, by rw [cell_of_block h2]; rfl, fun i => free_of_block h2, h3, h4, h5, h6⟩

set_option maxHeartbeats 400000 in
theorem fail_any (g : Nat) (e c : Int) (w : World) (h0 : w.cell? ⟨g, 0, none⟩ = some (.int .i64 e)) (hf : w.frozen? ⟨g, 0, none⟩ = false) :
    Calls Try.prog 21 #[.pointer (some ⟨g, 0, none⟩), .int .i64 c] w fun r w' => (∃ v, r = .returned v) ∧ w' = if e = 0 then w.setCell ⟨g, 0, none⟩ (.int .i64 c) else w := by
  by_cases he : e = 0
  · subst he
    go_enter Try.func21, Try.ntmps21
    go_wp2
    go_end0
    exact ⟨⟨_, rfl⟩, by simp⟩
  · go_enter Try.func21, Try.ntmps21
    go_wp2
    go_end0
    exact ⟨⟨_, rfl⟩, by simp⟩

set_option maxHeartbeats 400000 in
theorem err_any (g : Nat) (bs : List Nat) (e : Int) (l : List UInt8) (lim : Int) (w : World) (h : Rd w g bs e l lim) :
    Calls Try.prog 19 #[.pointer (some ⟨g, 0, none⟩)] w fun r w' => r = .returned (.int .i64 e) ∧ w' = w := by
  obtain ⟨ao, cap, c0, c1, c2, fr, h3, h4, h5, h6⟩ := h.open
  clear h5 h6
  go_enter Try.func19, Try.ntmps19
  go_wp2
  go_ret
  exact ⟨rfl, rfl⟩
theorem errNil_any (w : World) :
    Calls Try.prog 19 #[.pointer none] w fun r w' => r = .returned (.int .i64 2) ∧ w' = w := by
  go_enter Try.func19, Try.ntmps19
  go_wp2
  go_ret
  exact ⟨rfl, rfl⟩

/-- What a byte is read as: the byte, the error behind it, what is left. -/
def byteR (e : Int) : List UInt8 → Int × Int × List UInt8
  | [] => (0, if e = 0 then 10 else e, [])
  | c :: r => if e = 0 then (((c.toNat : Nat) : Int), 0, r) else (0, e, c :: r)

set_option maxHeartbeats 400000 in
theorem byte_any (g : Nat) (bs : List Nat) (e : Int) (l : List UInt8) (lim : Int) (w : World) (h : Rd w g bs e l lim) :
    Calls Try.prog 29 #[.pointer (some ⟨g, 0, none⟩)] w fun r w' => r = .returned (.int .u8 (byteR e l).1) ∧ Rd w' g bs (byteR e l).2.1 (byteR e l).2.2 lim ∧ Mod [g] w w' := by
  obtain ⟨ao, cap, c0, c1, c2, fr, h3, h4, h5, h6⟩ := h.open
  have fr0 := fr 0
  have fr1 := fr 1
  have H := Lib.hid h
  have HB := Lib.hid h6
  have HS := Lib.hid h5
  clear h fr h6 h5
  by_cases he : e = 0
  · subst he
    cases l with
    | nil =>
      go_enter Try.func29, Try.ntmps29
      go_wp2_with (go_at_call 21; refine (fail_any g 0 10 _ c0 fr0).mono ?_; rintro e w1 ⟨⟨v, rfl⟩, rfl⟩)
      go_ret
      exact ⟨rfl, H.out.err 10, Mod.setCell _ _ _ (by simp)⟩
    | cons c r =>
      obtain ⟨b, off, ha, hc⟩ := HS.out 0 (by simp)
      subst ha
      simp only [Nat.add_zero, List.getElem_cons_zero] at hc
      have hlen : (c :: r).length = r.length + 1 := rfl
      by_cases hcap : cap = 1
      · subst hcap
        have hr : r = [] := List.eq_nil_of_length_eq_zero (by omega)
        subst hr
        go_enter Try.func29, Try.ntmps29
        go_wp2
        go_ret
        exact ⟨rfl, H.out.pass rfl (by simp) (by simp) (Sees.nil _ _) (fun h => absurd rfl h), Mod.setCell _ _ _ (by simp)⟩
      · go_enter Try.func29, Try.ntmps29
        go_wp2
        go_ret
        refine ⟨rfl, H.out.pass rfl (by omega) (by omega) (HS.out.drop1) (by intro _ k hk; exact HB.out (by simp) k (by simpa [blk] using hk)), Mod.setCell _ _ _ (by simp)⟩
  · go_enter Try.func29, Try.ntmps29
    go_wp2
    go_ret
    have : byteR e l = (0, e, l) := by cases l <;> simp [byteR, he]
    rw [this]
    exact ⟨rfl, H.out, Mod.refl _ _⟩
end Go.Proofs.Ytgneigdcgfiooaa
/- The walks of the varint package's reader: numbers and texts. -/
namespace Go.Proofs.Ytgneigdcgfiooaa
open Go Go.RowKit

/-- What bytes are read as a number: k rounds are left, the i-th byte comes, n is what was read: the number, the error, what is left. -/
def uintR : Nat → Nat → Nat → List UInt8 → Nat × Int × List UInt8
  | 0, _, _, l => (0, 0, l)
  | _ + 1, _, _, [] => (0, 10, [])
  | k + 1, i, n, c :: r =>
    if (i = 9 ∧ 1 < c.toNat) ∨ (0 < i ∧ c.toNat = 0) then (0, 11, r)
    else if c.toNat < 128 then (n + c.toNat % 128 * 2 ^ (7 * i), 0, r)
    else uintR k (i + 1) (n + c.toNat % 128 * 2 ^ (7 * i)) r
def uintE (k i n : Nat) (e : Int) (l : List UInt8) : Nat × Int × List UInt8 := if e = 0 then uintR k i n l else (0, e, l)

theorem and127_all : ∀ n, n < 256 → bits .and .u8 ((n : Nat) : Int) 127 = ((n % 128 : Nat) : Int) := by decide +kernel
theorem or_walk (acc k : Nat) (c : UInt8) (ha : acc < 2 ^ (7 * k)) (hk : k ≤ 9) (h9 : k = 9 → c.toNat ≤ 1) :
    bits BinOp.or IntKind.u64 (acc : Int) (IntKind.u64.wrap (IntKind.u64.wrap (bits BinOp.and IntKind.u8 ((c.toNat : Nat) : Int) 127) * 2 ^ (7 * k))) = ((acc + c.toNat % 128 * 2 ^ (7 * k) : Nat) : Int) := by
  have hx : c.toNat % 128 < 128 := Nat.mod_lt _ (by omega)
  rw [and127_all _ c.toNat_lt, IntWalk.u64_in ((c.toNat % 128 : Nat) : Int) (by omega)]
  have hp : 2 ^ (7 * k) ≤ 2 ^ 63 := Nat.pow_le_pow_right (by omega) (by omega)
  have hb : c.toNat % 128 * 2 ^ (7 * k) < 18446744073709551616 := by
    by_cases h : k = 9
    · have h1 : c.toNat % 128 ≤ 1 := by have := h9 h; omega
      have := Nat.mul_le_mul h1 hp
      omega
    · have hp8 : 2 ^ (7 * k) ≤ 2 ^ 56 := Nat.pow_le_pow_right (by omega) (by omega)
      have := Nat.mul_le_mul (Nat.le_of_lt_succ hx) hp8
      omega
  have e : (((c.toNat % 128 : Nat) : Int) * 2 ^ (7 * k)) = ((c.toNat % 128 * 2 ^ (7 * k) : Nat) : Int) := by
    rw [Int.natCast_mul, Int.natCast_pow]; rfl
  rw [e, IntWalk.u64_in _ (by omega), bits_or_u64_nat _ _ (by omega) hb]
  have := Nat.shiftLeft_add_eq_or_of_lt ha (c.toNat % 128)
  rw [Nat.shiftLeft_eq] at this
  rw [Nat.or_comm, ← this, Nat.add_comm]
theorem acc_next (acc k : Nat) (c : UInt8) (ha : acc < 2 ^ (7 * k)) : acc + c.toNat % 128 * 2 ^ (7 * k) < 2 ^ (7 * (k + 1)) := by
  have hx : c.toNat % 128 ≤ 127 := by omega
  have h1 := Nat.mul_le_mul_right (2 ^ (7 * k)) hx
  have h2 : 2 ^ (7 * (k + 1)) = 128 * 2 ^ (7 * k) := by rw [Nat.mul_add, Nat.pow_add, Nat.mul_comm]
  omega
theorem uintE_end (k i n : Nat) : uintE (k + 1) i n 0 [] = (0, 10, []) := rfl
theorem uintE_bad (k i n : Nat) (c : UInt8) (r : List UInt8) (h : (i = 9 ∧ 1 < c.toNat) ∨ (0 < i ∧ c.toNat = 0)) : uintE (k + 1) i n 0 (c :: r) = (0, 11, r) := by simp [uintE, uintR, h]
theorem uintE_last (k i n : Nat) (c : UInt8) (r : List UInt8) (h1 : ¬ (i = 9 ∧ 1 < c.toNat)) (h2 : ¬ (0 < i ∧ c.toNat = 0)) (h3 : c.toNat < 128) : uintE (k + 1) i n 0 (c :: r) = (n + c.toNat % 128 * 2 ^ (7 * i), 0, r) := by
  have h : ¬ ((i = 9 ∧ 1 < c.toNat) ∨ (0 < i ∧ c.toNat = 0)) := fun h => h.elim h1 h2
  simp only [uintE, uintR, if_true, if_neg h, if_pos h3]
theorem uintE_more (k i n : Nat) (c : UInt8) (r : List UInt8) (h1 : ¬ (i = 9 ∧ 1 < c.toNat)) (h2 : ¬ (0 < i ∧ c.toNat = 0)) (h3 : ¬ c.toNat < 128) : uintE (k + 1) i n 0 (c :: r) = uintE k (i + 1) (n + c.toNat % 128 * 2 ^ (7 * i)) 0 r := by
  have h : ¬ ((i = 9 ∧ 1 < c.toNat) ∨ (0 < i ∧ c.toNat = 0)) := fun h => h.elim h1 h2
  simp only [uintE, uintR, if_true, if_neg h, if_neg h3]
theorem uintE_err (k i n : Nat) (e : Int) (l : List UInt8) (h : e ≠ 0) : uintE k i n e l = (0, e, l) := by simp [uintE, h]

set_option maxRecDepth 100000 in
set_option maxHeartbeats 1000000 in
theorem ruint_any (g : Nat) (bs : List Nat) (e : Int) (l : List UInt8) (lim : Int) (w : World) (h : Rd w g bs e l lim) :
    Calls Try.prog 18 #[.pointer (some ⟨g, 0, none⟩)] w fun r w' => r = .returned (.int .u64 ((uintE 10 0 0 e l).1 : Int)) ∧ Rd w' g bs (uintE 10 0 0 e l).2.1 (uintE 10 0 0 e l).2.2 lim ∧ Mod [g] w w' := by
  have H := Lib.hid h
  clear h
  go_enter Try.func18, Try.ntmps18
  go_wp2
  go_loopw [3, 4] (fun n i wr => ∃ (k acc : Nat) (l' : List UInt8), k ≤ 10 ∧ acc < 2 ^ (7 * k) ∧ n = .int .u64 (acc : Int) ∧ i = .int .i64 (k : Int) ∧ Rd wr g bs e l' lim ∧ Mod [g] w wr ∧ uintE 10 0 0 e l = uintE (10 - k) k acc e l') (fun _ i _ => 10 - (RowKit.intOf i).toNat)
  case atStart => exact ⟨0, 0, l, by omega, by decide, rfl, rfl, H.out, Mod.refl _ _, rfl⟩
  case round =>
    obtain ⟨k, acc, l', hk, hacc, rfl, rfl, hr, hm, hu⟩ := hrel
    have HR := Lib.hid hr
    have HM := Lib.hid hm
    have HU := Lib.hid hu
    have HA := Lib.hid hacc
    clear hr hm hu hacc H
    by_cases hlt : k < 10
    · go_wp2_with fail
      refine (byte_any g bs e l' lim _ HR.out).mono ?_
      rintro e1 w1 ⟨rfl, hr1, hm1⟩
      have HR1 := Lib.hid hr1
      have HM1 := Lib.hid (HM.out.trans' hm1)
      clear hr1 hm1 HR HM
      go_wp2_with fail
      refine (err_any g bs _ _ lim _ HR1.out).mono ?_
      rintro e2 w2 ⟨rfl, rfl⟩
      by_cases he : e = 0
      · subst he
        have e10 : 10 - k = (9 - k) + 1 := by omega
        rw [e10] at HU
        cases l' with
        | nil =>
          simp only [byteR, if_true] at *
          have hu := HU.out
          rw [uintE_end] at hu
          have HV := Lib.hid hu
          clear hu
          go_wp2
          go_ret
          rw [HV.out]
          exact ⟨rfl, HR1.out, HM1.out⟩
        | cons c r =>
          simp only [byteR, if_true] at *
          have hc1 := toNat_lt c
          have hc0 : (0 : Int) ≤ ((c.toNat : Nat) : Int) := by omega
          obtain ⟨ao2, cap2, f0, _, _, fr, _⟩ := HR1.out.open
          have fr0 := fr 0
          clear fr
          by_cases hA : k = 9 ∧ 1 < c.toNat
          · have hu := HU.out
            rw [uintE_bad _ _ _ _ _ (.inl hA)] at hu
            have HV := Lib.hid hu
            obtain ⟨rfl, hc⟩ := hA
            have hc' : (1 : Int) < ((c.toNat : Nat) : Int) := by omega
            clear hu
            go_wp2_with (go_at_call 21; refine (fail_any g 0 11 _ f0 fr0).mono ?_; rintro e w1 ⟨⟨v, rfl⟩, rfl⟩)
            go_ret
            rw [HV.out]
            exact ⟨rfl, HR1.out.err 11, HM1.out.trans' (Mod.setCell _ _ _ (by simp))⟩
          by_cases hB : 0 < k ∧ c.toNat = 0
          · have hu := HU.out
            rw [uintE_bad _ _ _ _ _ (.inr hB)] at hu
            have HV := Lib.hid hu
            obtain ⟨hk0, hc⟩ := hB
            have hc' : ((c.toNat : Nat) : Int) = 0 := by omega
            rw [hc'] at *
            clear hu
            go_wp2_with (go_at_call 21; refine (fail_any g 0 11 _ f0 fr0).mono ?_; rintro e w1 ⟨⟨v, rfl⟩, rfl⟩)
            all_goals go_ret
            all_goals rw [HV.out]
            all_goals exact ⟨rfl, HR1.out.err 11, HM1.out.trans' (Mod.setCell _ _ _ (by simp))⟩
          have hE := or_walk acc k c HA.out (by omega) (by omega)
          have HE := Lib.hid hE
          have hz : 0 < k → ((c.toNat : Nat) : Int) ≠ 0 := by omega
          have hz2 : 0 < k → (((c.toNat : Nat) : Int) == 0) = false := by intro h; simpa using hz h
          have h9 : k = 9 → ¬ (1 < ((c.toNat : Nat) : Int)) := by omega
          clear hE
          by_cases hC : c.toNat < 128
          · have hC' : ((c.toNat : Nat) : Int) < 128 := by omega
            have hu := HU.out
            rw [uintE_last _ _ _ _ _ hA hB hC] at hu
            have HV := Lib.hid hu
            clear hu
            have HA' := Lib.hid hA
            have HB' := Lib.hid hB
            clear hA hB
            go_wp2
            all_goals go_ret
            all_goals rw [HE.out, HV.out]
            all_goals exact ⟨rfl, HR1.out, HM1.out⟩
          · have hu := HU.out
            rw [uintE_more _ _ _ _ _ hA hB hC] at hu
            have HU2 := Lib.hid hu
            have hC' : ¬ ((c.toNat : Nat) : Int) < 128 := by omega
            have hk8 : k < 9 := by omega
            clear hu
            have HA' := Lib.hid hA
            have HB' := Lib.hid hB
            clear hA hB
            go_wp2
            all_goals go_roundw
            all_goals first
              | exact ⟨k + 1, _, r, by omega, acc_next acc k c HA.out, by rw [HE.out], by go_num, HR1.out, HM1.out, by rw [HU2.out]; congr 1; omega⟩
              | (simp [RowKit.intOf]; omega)
      · have hb : byteR e l' = (0, e, l') := by cases l' <;> simp [byteR, he]
        have hr1 := HR1.out
        rw [hb] at hr1
        have HR2 := Lib.hid hr1
        clear hr1 HR1
        simp only [hb]
        have hu := HU.out
        rw [uintE_err _ _ _ _ _ he, uintE_err _ _ _ _ _ he] at hu
        simp only [Prod.mk.injEq, true_and] at hu
        obtain rfl := hu
        clear HU
        go_wp2
        go_ret
        rw [uintE_err _ _ _ _ _ he]
        exact ⟨rfl, HR2.out, HM1.out⟩
    · have hk10 : k = 10 := by omega
      subst hk10
      have hu := HU.out
      have he0 : uintE (10 - 10) 10 acc e l' = (0, e, l') := by
        by_cases he : e = 0
        · subst he; rfl
        · exact uintE_err _ _ _ _ _ he
      rw [he0] at hu
      have HV := Lib.hid hu
      clear hu he0
      go_wp2
      go_ret
      rw [HV.out]
      exact ⟨rfl, HR.out, HM.out⟩
end Go.Proofs.Ytgneigdcgfiooaa
