/- The walk of the varint laws' wakes. -/
import Derived.Test.YtodkjkfaaamlaaaVarWrites
import Derived.Test.YtodkjkfaaamlaaaRead3
namespace Go.Proofs.Ytodkjkfaaamlaaa
open Go Go.RowKit Go.Lib

set_option maxRecDepth 100000 in
set_option maxHeartbeats 4000000 in
theorem wakes01_any (w : World) : Calls Try.prog 15 #[] w fun e w' => e = .returned (.bool true) ∧ Mod [] w w' := by
  have h1 : Hid (uintE 10 0 0 0 [128, 0] = (0, 11, [])) := by unfold Hid; decide +kernel
  have h2 : Hid (textR 9 0 [5, 97] = ([], 10, [97])) := by unfold Hid; decide +kernel
  have h3 : Hid (enc7 300 = [172, 2]) := by unfold Hid; decide +kernel
  have h4 : Hid (enc7 (zig (-1)) = [1]) := by unfold Hid; decide +kernel
  have h5 : Hid (enc7 2 = [2]) := by unfold Hid; decide +kernel
  go_enter Try.func15, Try.ntmps15
  go_wp2_with fail
  have o1 := Own.new (sz := 1) (n := 2) (heap_alloc_new w (.cells #[.int .u8 128, .int .u8 0] 5)) (.inl rfl) rfl (by unfold maxLen; omega)
  have m1 := Mod.alloc [] w (.cells #[.int .u8 128, .int .u8 0] 5)
  refine (newReader_any _ 2 2 [128, 0] 9 _ rfl (by omega) (by omega) (Own.sees (l := [128, 0]) o1)).mono ?_
  rintro e w1 ⟨g1, rfl, r1, m2, z1⟩
  have M1 := Lib.hid (m1.trans' m2)
  have R1 := Lib.hid r1
  have G1 : Hid (w.heap.size ≤ g1) := by show _ ≤ _; simp at z1; omega
  clear o1 m1 r1 m2 z1
  go_wp2_with fail
  refine (ruint_any g1 _ 0 _ 9 _ R1.out).mono ?_
  rintro e w2 ⟨rfl, r2, m2⟩
  rw [h1.out] at r2 ⊢
  have R2 := Lib.hid r2
  have M2 := Lib.hid (M1.out.trans m2 (by simp; exact G1.out))
  clear R1 M1 r2 m2
  go_wp2_with fail
  have o1 := Own.new (sz := 1) (n := 2) (heap_alloc_new w2 (.cells #[.int .u8 5, .int .u8 97] 5)) (.inl rfl) rfl (by unfold maxLen; omega)
  have m1 := Mod.alloc [] w2 (.cells #[.int .u8 5, .int .u8 97] 5)
  refine (newReader_any _ 2 2 [5, 97] 9 _ rfl (by omega) (by omega) (Own.sees (l := [5, 97]) o1)).mono ?_
  rintro e w3 ⟨g2, rfl, r3, m3, z3⟩
  have M3 := Lib.hid ((M2.out.trans' m1).trans' m3)
  have R3 := Lib.hid r3
  have R2b := Lib.hid ((R2.out.mod0 m1).mod0 m3)
  have G2 : Hid (w.heap.size ≤ g2 ∧ g1 ≠ g2 ∧ w.heap.size ≠ g2) := by
    have := R2.out.lt
    have := M2.out.size
    have := G1.out
    show _ ∧ _ ∧ _
    simp at z3
    refine ⟨by omega, by omega, by omega⟩
  clear o1 m1 r3 m3 z3 M2 R2
  go_wp2_with fail
  refine (rtext_any g2 _ 0 _ 9 _ R3.out (by omega) (by omega)).mono ?_
  rintro e w4 ⟨rfl, r4, m4⟩
  rw [h2.out] at r4 ⊢
  have R4 := Lib.hid r4
  have M4 := Lib.hid (M3.out.trans m4 (by simp; exact G2.out.1))
  have RA := Lib.hid (R2b.out.mod m4 (by simp; exact G2.out.2.1) (by simp [blkOf, blk]; exact G2.out.2.2))
  clear R3 M3 r4 m4 R2b
  have M5 := M4
  have RA5 := RA
  have RB5 := R4
  clear M4 RA R4
  go_wp2_with fail
  refine (vuint_any none 0 0 300 [] _ rfl (OwnB.nil _) (by omega) (by omega)).mono ?_
  rintro e w6 ⟨a6, k6, c6, rfl, hk6, o6, m6, n6⟩
  subst hk6
  rw [h3.out] at o6 ⊢
  have M6 := Lib.hid (M5.out.trans' m6)
  have RA6 := Lib.hid (RA5.out.mod0 m6)
  have RB6 := Lib.hid (RB5.out.mod0 m6)
  have O6 := Lib.hid o6
  clear M5 RA5 RB5 m6 n6 o6
  go_wp2_with (first | (refine wpl_str _ a6 _ c6 _ rfl (by first | rfl | simp) O6.out.sees (by rfl) ?_) | fail)
  refine (vint_any none 0 0 (-1) [] _ rfl (OwnB.nil _) (by omega) (by omega) (by omega)).mono ?_
  rintro e w7 ⟨a7, k7, c7, rfl, hk7, o7, m7, n7⟩
  subst hk7
  rw [h4.out] at o7 ⊢
  have M7 := Lib.hid (M6.out.trans' m7)
  have RA7 := Lib.hid (RA6.out.mod0 m7)
  have RB7 := Lib.hid (RB6.out.mod0 m7)
  have O7 := Lib.hid o7
  clear M6 RA6 RB6 m7 n7 o7 O6
  go_wp2_with (first | (refine wpl_str _ a7 _ c7 _ rfl (by first | rfl | simp) O7.out.sees (by rfl) ?_) | fail)
  refine (vtext_any none 0 0 _ [] _ rfl (OwnB.nil _) (by omega) (by decide)).mono ?_
  rintro e w8 ⟨a8, k8, c8, rfl, hk8, o8, m8, n8⟩
  subst hk8
  rw [show (ByteArray.size { data := #[97, 98] }) = 2 from rfl, h5.out] at o8 ⊢
  have M8 := Lib.hid (M7.out.trans' m8)
  have RA8 := Lib.hid (RA7.out.mod0 m8)
  have RB8 := Lib.hid (RB7.out.mod0 m8)
  have O8 := Lib.hid o8
  clear M7 RA7 RB7 m8 n8 o8 O7
  go_wp2_with (first | (refine wpl_str _ a8 _ c8 _ rfl (by first | rfl | simp) O8.out.sees (by rfl) ?_) | fail)
  refine (err_any g1 _ _ _ 9 _ RA8.out).mono ?_
  rintro e w9 ⟨rfl, rfl⟩
  go_wp2_with fail
  refine (err_any g2 _ _ _ 9 _ RB8.out).mono ?_
  rintro e w9 ⟨rfl, rfl⟩
  go_wp2
  go_ret
  exact ⟨rfl, M8.out⟩
end Go.Proofs.Ytodkjkfaaamlaaa
