/- The walk of the law VarintWrites. -/
import Derived.Test.YtodkjkfaaamlaaaVarintW
import Derived.Test.YtodkjkfaaamlaaaRef01
import Derived.Test.YtodkjkfaaamlaaaRegion
namespace Go.Proofs.Ytodkjkfaaamlaaa
open Go Go.RowKit Go.Lib

set_option maxRecDepth 100000 in
set_option maxHeartbeats 4000000 in
theorem varintWrites_any (bo : Option Addr) (lb cb : Nat) (b : List UInt8) (n : Nat) (m : Int) (s : ByteArray) (w : World) (hlb : b.length = lb) (hsees : Sees w bo b) (hmb : lb ≤ 9223372036854775807)
    (hn : n < 18446744073709551616) (h1 : -9223372036854775808 ≤ m) (h2 : m ≤ 9223372036854775807) (hs : s.size ≤ 9223372036854775807)
    (hwakes : ∀ w, Calls Try.prog 15 #[] w fun e w' => e = .returned (.bool true) ∧ Mod [] w w') :
    Calls Try.prog 5 #[.slice bo lb cb, .int .u64 (n : Int), .int .i64 m, .string s] w fun e w' => e = .returned (.bool true) ∧ Mod [] w w' := by
  subst hlb
  have HB := Lib.hid hsees
  have hl1 := (enc7_length n).2
  have hl2 := (enc7_length (zig m)).2
  have hl3 := (enc7_length s.size).2
  have HW := Lib.hid hwakes
  clear hsees hwakes
  by_cases hb : 1000 < b.length
  · go_enter Try.func5, Try.ntmps5
    go_wp2_with (go_at_call 15; refine (HW.out _).mono ?_; rintro e w1 ⟨rfl, hm1⟩)
    go_ret
    exact ⟨rfl, by assumption⟩
  by_cases hs1 : 1000 < s.size
  · go_enter Try.func5, Try.ntmps5
    go_wp2_with (go_at_call 15; refine (HW.out _).mono ?_; rintro e w1 ⟨rfl, hm1⟩)
    go_ret
    exact ⟨rfl, by assumption⟩
  go_enter Try.func5, Try.ntmps5
  go_upto_region 4 with (refine wpl_str _ bo _ cb b rfl rfl HB.out (by rfl) ?_)
  refine rest_start [] 41 #[false, false, false, false, false, false, false, false, false, false, false, false, false, false, false, false, false, false, false, false, false, false, false, false, false, false, false, false, false, false, false, false, false, false, false, false, false, false, false, false, false] rfl (by kernel_rfl) (by kernel_rfl) ?_
  intro w0 m0
  have HB0 := Lib.hid (HB.out.mod0 m0)
  have M0 := Lib.hid m0
  clear m0
  refine rest_got (i := 0) (v := ?v1) rfl (by kernel_rfl) (by kernel_rfl) (by kernel_rfl) (fun _ _ _ h => h) (by rfl) ?y1 ?r1
  case y1 => (intro w9q hSwq; clear hSwq; go_simp; with_reducible rfl)
  try simp only [Act.put, List.setIfInBounds_toArray, List.set_cons_zero, List.set_cons_succ]
  refine rest_got (i := 2) (v := ?v2) rfl (by kernel_rfl) (by kernel_rfl) (by kernel_rfl) (fun _ _ _ h => h) (by rfl) ?y2 ?r2
  case y2 => (intro w9q hSwq; clear hSwq; go_simp; with_reducible rfl)
  try simp only [Act.put, List.setIfInBounds_toArray, List.set_cons_zero, List.set_cons_succ]
  refine rest_got (i := 5) (v := ?v3) rfl (by kernel_rfl) (by kernel_rfl) (by kernel_rfl) (fun _ _ _ h => h) (by rfl) ?y3 ?r3
  case y3 => (intro w9q hSwq; clear hSwq; go_simp; with_reducible rfl)
  try simp only [Act.put, List.setIfInBounds_toArray, List.set_cons_zero, List.set_cons_succ]
  refine rest_got (i := 6) (v := ?v4) rfl (by kernel_rfl) (by kernel_rfl) (by kernel_rfl) (fun _ _ _ h => h) (by rfl) ?y4 ?r4
  case y4 => (intro w9q hSwq; clear hSwq; go_simp; with_reducible rfl)
  try simp only [Act.put, List.setIfInBounds_toArray, List.set_cons_zero, List.set_cons_succ]
  refine rest_one (i := 1) (by kernel_rfl) rfl (by rfl) ?_
  go_wp2_with (at_builtin; refine wpl_app8 _ _ none 0 0 [] rfl rfl (OwnB.nil _) bo _ cb b rfl rfl HB0.out (by omega) ?_; intro a1 c1 w1 o1 m1 n1)
  refine back_to (K1 := blk a1) m1 (fresh_of n1) ?_
  have N1 := Lib.hid (show SameOrNew w w1 none a1 from n1.imp id (fun ⟨g, h1, h2, h3⟩ => ⟨g, h1, Nat.le_trans M0.out.size h2, h3⟩))
  have K1 := Lib.hid (fresh_of n1 (K := []))
  have HB1 := Lib.hid (HB0.out.mod0 m1)
  have M1 := Lib.hid (M0.out.trans' m1)
  rw [List.nil_append] at o1
  have O1 := Lib.hid o1
  clear m1 n1 o1 HB0 M0
  
  refine rest_one (i := 3) (by kernel_rfl) rfl (by rfl) ?_
  go_wp2_with fail
  refine (vuint_any _ _ _ _ b _ rfl O1.out hn (by omega)).mono ?_
  rintro e w2 ⟨a2, k2, c2, rfl, hk2, o2, m2, n2⟩
  subst hk2
  go_wp2_with fail
  refine back_to (K1 := []) m2 (by simp) ?_
  have M2 := Lib.hid (Mod.transNew M1.out m2 N1.out (by simp [blk]))
  have HB2 := Lib.hid (HB.out.mod0 M2.out)
  have O2 := Lib.hid o2
  clear M1 N1 K1 HB1 O1 m2 n2 o2
  refine rest_got (i := 4) (v := ?v5) rfl (by kernel_rfl) (by kernel_rfl) (by kernel_rfl) (fun _ _ _ h => h) (by rfl) ?y5 ?r5
  case y5 => ((intro w9' hm9'; refine Eq.trans (reads_str _ _ _ _ 5 Try.underlying35 Try.underlying5 Try.underlying9 _ _ _ _ rfl (by first | rfl | simp) (O2.out.sees) (by first | (intro k _ hk; exact (List.not_mem_nil hk)) | simp) w9' hm9') ?_; with_reducible rfl))
  try simp only [Act.put, List.setIfInBounds_toArray, List.set_cons_zero, List.set_cons_succ]
  refine rest_one (i := 7) (by kernel_rfl) rfl (by rfl) ?_
  go_wp2_with fail
  refine (refUint_any _ _ hn).mono ?_
  rintro e w3 ⟨a3, k3, c3, rfl, hk3, o3, m3, n3⟩
  subst hk3
  go_wp2_with fail
  refine back_to (K1 := []) m3 (by simp) ?_
  have HB3 := Lib.hid (HB2.out.mod0 m3)
  have M3 := Lib.hid (M2.out.trans' m3)
  have O3 := Lib.hid o3
  clear M2 HB2 O2 m3 n3 o3
  refine rest_got (i := 8) (v := ?v6) rfl (by kernel_rfl) (by kernel_rfl) (by kernel_rfl) (fun _ _ _ h => h) (by rfl) ?y6 ?r6
  case y6 => ((intro w9' hm9'; refine Eq.trans (reads_str _ _ _ _ 5 Try.underlying35 Try.underlying5 Try.underlying9 _ _ _ _ rfl (by first | rfl | simp) (O3.out.sees) (by first | (intro k _ hk; exact (List.not_mem_nil hk)) | simp) w9' hm9') ?_; with_reducible rfl))
  try simp only [Act.put, List.setIfInBounds_toArray, List.set_cons_zero, List.set_cons_succ]
  refine rest_got (i := 9) (v := ?v7) rfl (by kernel_rfl) (by kernel_rfl) (by kernel_rfl) (fun _ _ _ h => h) (by rfl) ?y7 ?r7
  case y7 => ((intro w9' hm9'; refine Eq.trans (reads_cat w9' _ _ _ _ _ rfl rfl (show b.length + (enc7 n).length ≤ 9223372036854775807 by omega)) ?_; with_reducible rfl))
  try simp only [Act.put, List.setIfInBounds_toArray, List.set_cons_zero, List.set_cons_succ]
  refine rest_got (i := 10) (v := ?v8) rfl (by kernel_rfl) (by kernel_rfl) (by kernel_rfl) (fun _ _ _ h => h) (by rfl) ?y8 ?r8
  case y8 => ((intro w9' hm9'; refine Eq.trans (reads_eqs w9' _ _ _ _ _ rfl rfl) ?_; refine Eq.trans (congrArg (fun b => Result.ok (Next.value (Value.bool b)) w9') (decide_eq_true (by first | rfl | (simp; done)))) ?_; with_reducible rfl))
  try simp only [Act.put, List.setIfInBounds_toArray, List.set_cons_zero, List.set_cons_succ]
  refine rest_got (i := 11) (v := ?v9) rfl (by kernel_rfl) (by kernel_rfl) (by kernel_rfl) (fun _ _ _ h => h) (by rfl) ?y9 ?r9
  case y9 => (intro w9q hSwq; clear hSwq; go_simp; with_reducible rfl)
  try simp only [Act.put, List.setIfInBounds_toArray, List.set_cons_zero, List.set_cons_succ]
  refine rest_got (i := 12) (v := ?v10) rfl (by kernel_rfl) (by kernel_rfl) (by kernel_rfl) (fun _ _ _ h => h) (by rfl) ?y10 ?r10
  case y10 => (intro w9q hSwq; clear hSwq; go_simp; with_reducible rfl)
  try simp only [Act.put, List.setIfInBounds_toArray, List.set_cons_zero, List.set_cons_succ]
  refine rest_got (i := 14) (v := ?v11) rfl (by kernel_rfl) (by kernel_rfl) (by kernel_rfl) (fun _ _ _ h => h) (by rfl) ?y11 ?r11
  case y11 => (intro w9q hSwq; clear hSwq; go_simp; with_reducible rfl)
  try simp only [Act.put, List.setIfInBounds_toArray, List.set_cons_zero, List.set_cons_succ]
  refine rest_got (i := 17) (v := ?v12) rfl (by kernel_rfl) (by kernel_rfl) (by kernel_rfl) (fun _ _ _ h => h) (by rfl) ?y12 ?r12
  case y12 => (intro w9q hSwq; clear hSwq; go_simp; with_reducible rfl)
  try simp only [Act.put, List.setIfInBounds_toArray, List.set_cons_zero, List.set_cons_succ]
  refine rest_got (i := 18) (v := ?v13) rfl (by kernel_rfl) (by kernel_rfl) (by kernel_rfl) (fun _ _ _ h => h) (by rfl) ?y13 ?r13
  case y13 => (intro w9q hSwq; clear hSwq; go_simp; with_reducible rfl)
  try simp only [Act.put, List.setIfInBounds_toArray, List.set_cons_zero, List.set_cons_succ]
  refine rest_one (i := 13) (by kernel_rfl) rfl (by rfl) ?_
  go_wp2_with (at_builtin; refine wpl_app8 _ _ none 0 0 [] rfl rfl (OwnB.nil _) bo _ cb b rfl rfl HB3.out (by omega) ?_; intro a4 c4 w4 o4 m4 n4)
  refine back_to (K1 := blk a4) m4 (fresh_of n4) ?_
  have N4 := Lib.hid (show SameOrNew w w4 none a4 from n4.imp id (fun ⟨g, h1, h2, h3⟩ => ⟨g, h1, Nat.le_trans M3.out.size h2, h3⟩))
  have K4 := Lib.hid (fresh_of n4 (K := []))
  have HB4 := Lib.hid (HB3.out.mod0 m4)
  have M4 := Lib.hid (M3.out.trans' m4)
  rw [List.nil_append] at o4
  have O4 := Lib.hid o4
  clear m4 n4 o4 HB3 M3 O3
  
  refine rest_one (i := 15) (by kernel_rfl) rfl (by rfl) ?_
  go_wp2_with fail
  refine (vint_any _ _ _ _ b _ rfl O4.out (by omega) h1 h2).mono ?_
  rintro e w5 ⟨a5, k5, c5, rfl, hk5, o5, m5, n5⟩
  subst hk5
  go_wp2_with fail
  refine back_to (K1 := []) m5 (by simp) ?_
  have M5 := Lib.hid (Mod.transNew M4.out m5 N4.out (by simp [blk]))
  have HB5 := Lib.hid (HB.out.mod0 M5.out)
  have O5 := Lib.hid o5
  clear M4 N4 K4 HB4 O4 m5 n5 o5
  refine rest_got (i := 16) (v := ?v14) rfl (by kernel_rfl) (by kernel_rfl) (by kernel_rfl) (fun _ _ _ h => h) (by rfl) ?y14 ?r14
  case y14 => ((intro w9' hm9'; refine Eq.trans (reads_str _ _ _ _ 5 Try.underlying35 Try.underlying5 Try.underlying9 _ _ _ _ rfl (by first | rfl | simp) (O5.out.sees) (by first | (intro k _ hk; exact (List.not_mem_nil hk)) | simp) w9' hm9') ?_; with_reducible rfl))
  try simp only [Act.put, List.setIfInBounds_toArray, List.set_cons_zero, List.set_cons_succ]
  refine rest_one (i := 19) (by kernel_rfl) rfl (by rfl) ?_
  go_wp2_with fail
  refine (refInt_any _ _ h1 h2).mono ?_
  rintro e w6 ⟨a6, k6, c6, rfl, hk6, o6, m6, n6⟩
  subst hk6
  go_wp2_with fail
  refine back_to (K1 := []) m6 (by simp) ?_
  have HB6 := Lib.hid (HB5.out.mod0 m6)
  have M6 := Lib.hid (M5.out.trans' m6)
  have O6 := Lib.hid o6
  clear M5 HB5 O5 m6 n6 o6
  refine rest_got (i := 20) (v := ?v15) rfl (by kernel_rfl) (by kernel_rfl) (by kernel_rfl) (fun _ _ _ h => h) (by rfl) ?y15 ?r15
  case y15 => ((intro w9' hm9'; refine Eq.trans (reads_str _ _ _ _ 5 Try.underlying35 Try.underlying5 Try.underlying9 _ _ _ _ rfl (by first | rfl | simp) (O6.out.sees) (by first | (intro k _ hk; exact (List.not_mem_nil hk)) | simp) w9' hm9') ?_; with_reducible rfl))
  try simp only [Act.put, List.setIfInBounds_toArray, List.set_cons_zero, List.set_cons_succ]
  refine rest_got (i := 21) (v := ?v16) rfl (by kernel_rfl) (by kernel_rfl) (by kernel_rfl) (fun _ _ _ h => h) (by rfl) ?y16 ?r16
  case y16 => ((intro w9' hm9'; refine Eq.trans (reads_cat w9' _ _ _ _ _ rfl rfl (show b.length + (enc7 (zig m)).length ≤ 9223372036854775807 by omega)) ?_; with_reducible rfl))
  try simp only [Act.put, List.setIfInBounds_toArray, List.set_cons_zero, List.set_cons_succ]
  refine rest_got (i := 22) (v := ?v17) rfl (by kernel_rfl) (by kernel_rfl) (by kernel_rfl) (fun _ _ _ h => h) (by rfl) ?y17 ?r17
  case y17 => ((intro w9' hm9'; refine Eq.trans (reads_eqs w9' _ _ _ _ _ rfl rfl) ?_; refine Eq.trans (congrArg (fun b => Result.ok (Next.value (Value.bool b)) w9') (decide_eq_true (by first | rfl | (simp; done)))) ?_; with_reducible rfl))
  try simp only [Act.put, List.setIfInBounds_toArray, List.set_cons_zero, List.set_cons_succ]
  refine rest_got (i := 23) (v := ?v18) rfl (by kernel_rfl) (by kernel_rfl) (by kernel_rfl) (fun _ _ _ h => h) (by rfl) ?y18 ?r18
  case y18 => (intro w9q hSwq; clear hSwq; go_simp; with_reducible rfl)
  try simp only [Act.put, List.setIfInBounds_toArray, List.set_cons_zero, List.set_cons_succ]
  refine rest_got (i := 24) (v := ?v19) rfl (by kernel_rfl) (by kernel_rfl) (by kernel_rfl) (fun _ _ _ h => h) (by rfl) ?y19 ?r19
  case y19 => (intro w9q hSwq; clear hSwq; go_simp; with_reducible rfl)
  try simp only [Act.put, List.setIfInBounds_toArray, List.set_cons_zero, List.set_cons_succ]
  refine rest_got (i := 25) (v := ?v20) rfl (by kernel_rfl) (by kernel_rfl) (by kernel_rfl) (fun _ _ _ h => h) (by rfl) ?y20 ?r20
  case y20 => (intro w9q hSwq; clear hSwq; go_simp; with_reducible rfl)
  try simp only [Act.put, List.setIfInBounds_toArray, List.set_cons_zero, List.set_cons_succ]
  refine rest_got (i := 27) (v := ?v21) rfl (by kernel_rfl) (by kernel_rfl) (by kernel_rfl) (fun _ _ _ h => h) (by rfl) ?y21 ?r21
  case y21 => (intro w9q hSwq; clear hSwq; go_simp; with_reducible rfl)
  try simp only [Act.put, List.setIfInBounds_toArray, List.set_cons_zero, List.set_cons_succ]
  refine rest_got (i := 30) (v := ?v22) rfl (by kernel_rfl) (by kernel_rfl) (by kernel_rfl) (fun _ _ _ h => h) (by rfl) ?y22 ?r22
  case y22 => (intro w9q hSwq; clear hSwq; go_simp; with_reducible rfl)
  try simp only [Act.put, List.setIfInBounds_toArray, List.set_cons_zero, List.set_cons_succ]
  refine rest_got (i := 31) (v := ?v23) rfl (by kernel_rfl) (by kernel_rfl) (by kernel_rfl) (fun _ _ _ h => h) (by rfl) ?y23 ?r23
  case y23 => (intro w9q hSwq; clear hSwq; go_simp; with_reducible rfl)
  try simp only [Act.put, List.setIfInBounds_toArray, List.set_cons_zero, List.set_cons_succ]
  refine rest_one (i := 26) (by kernel_rfl) rfl (by rfl) ?_
  go_wp2_with (at_builtin; refine wpl_app8 _ _ none 0 0 [] rfl rfl (OwnB.nil _) bo _ cb b rfl rfl HB6.out (by omega) ?_; intro a7 c7 w7 o7 m7 n7)
  refine back_to (K1 := blk a7) m7 (fresh_of n7) ?_
  have N7 := Lib.hid (show SameOrNew w w7 none a7 from n7.imp id (fun ⟨g, h1, h2, h3⟩ => ⟨g, h1, Nat.le_trans M6.out.size h2, h3⟩))
  have K7 := Lib.hid (fresh_of n7 (K := []))
  have HB7 := Lib.hid (HB6.out.mod0 m7)
  have M7 := Lib.hid (M6.out.trans' m7)
  rw [List.nil_append] at o7
  have O7 := Lib.hid o7
  clear m7 n7 o7 HB6 M6 O6
  
  refine rest_one (i := 28) (by kernel_rfl) rfl (by rfl) ?_
  go_wp2_with fail
  refine (vtext_any _ _ _ s b _ rfl O7.out (by omega) (by omega)).mono ?_
  rintro e w8 ⟨a8, k8, c8, rfl, hk8, o8, m8, n8⟩
  subst hk8
  go_wp2_with fail
  refine back_to (K1 := []) m8 (by simp) ?_
  have M8 := Lib.hid (Mod.transNew M7.out m8 N7.out (by simp [blk]))
  have HB8 := Lib.hid (HB.out.mod0 M8.out)
  have O8 := Lib.hid o8
  clear M7 N7 K7 HB7 O7 m8 n8 o8
  refine rest_got (i := 29) (v := ?v24) rfl (by kernel_rfl) (by kernel_rfl) (by kernel_rfl) (fun _ _ _ h => h) (by rfl) ?y24 ?r24
  case y24 => ((intro w9' hm9'; refine Eq.trans (reads_str _ _ _ _ 5 Try.underlying35 Try.underlying5 Try.underlying9 _ _ _ _ rfl (by first | rfl | simp) (O8.out.sees) (by first | (intro k _ hk; exact (List.not_mem_nil hk)) | simp) w9' hm9') ?_; with_reducible rfl))
  try simp only [Act.put, List.setIfInBounds_toArray, List.set_cons_zero, List.set_cons_succ]
  refine rest_one (i := 32) (by kernel_rfl) rfl (by rfl) ?_
  go_wp2_with fail
  refine (refText_any _ _ (by omega)).mono ?_
  rintro e w9 ⟨a9, k9, c9, rfl, hk9, o9, m9, n9⟩
  subst hk9
  go_wp2_with fail
  refine back_to (K1 := []) m9 (by simp) ?_
  have HB9 := Lib.hid (HB8.out.mod0 m9)
  have M9 := Lib.hid (M8.out.trans' m9)
  have O9 := Lib.hid o9
  clear M8 HB8 O8 m9 n9 o9
  refine rest_got (i := 33) (v := ?v25) rfl (by kernel_rfl) (by kernel_rfl) (by kernel_rfl) (fun _ _ _ h => h) (by rfl) ?y25 ?r25
  case y25 => ((intro w9' hm9'; refine Eq.trans (reads_str _ _ _ _ 5 Try.underlying35 Try.underlying5 Try.underlying9 _ _ _ _ rfl (by first | rfl | simp) (O9.out.sees) (by first | (intro k _ hk; exact (List.not_mem_nil hk)) | simp) w9' hm9') ?_; with_reducible rfl))
  try simp only [Act.put, List.setIfInBounds_toArray, List.set_cons_zero, List.set_cons_succ]
  refine rest_got (i := 34) (v := ?v26) rfl (by kernel_rfl) (by kernel_rfl) (by kernel_rfl) (fun _ _ _ h => h) (by rfl) ?y26 ?r26
  case y26 => ((intro w9' hm9'; refine Eq.trans (reads_cat w9' _ _ _ _ _ rfl rfl (show b.length + (enc7 s.size ++ s.data.toList).length ≤ 9223372036854775807 by (rw [List.length_append, size_data]; omega))) ?_; with_reducible rfl))
  try simp only [Act.put, List.setIfInBounds_toArray, List.set_cons_zero, List.set_cons_succ]
  refine rest_got (i := 35) (v := ?v27) rfl (by kernel_rfl) (by kernel_rfl) (by kernel_rfl) (fun _ _ _ h => h) (by rfl) ?y27 ?r27
  case y27 => ((intro w9' hm9'; refine Eq.trans (reads_eqs w9' _ _ _ _ _ rfl rfl) ?_; refine Eq.trans (congrArg (fun b => Result.ok (Next.value (Value.bool b)) w9') (decide_eq_true (by first | rfl | (simp; done)))) ?_; with_reducible rfl))
  try simp only [Act.put, List.setIfInBounds_toArray, List.set_cons_zero, List.set_cons_succ]
  refine rest_got (i := 36) (v := ?v28) rfl (by kernel_rfl) (by kernel_rfl) (by kernel_rfl) (fun _ _ _ h => h) (by rfl) ?y28 ?r28
  case y28 => (intro w9q hSwq; clear hSwq; go_simp; with_reducible rfl)
  try simp only [Act.put, List.setIfInBounds_toArray, List.set_cons_zero, List.set_cons_succ]
  refine rest_got (i := 37) (v := ?v29) rfl (by kernel_rfl) (by kernel_rfl) (by kernel_rfl) (fun _ _ _ h => h) (by rfl) ?y29 ?r29
  case y29 => (intro w9q hSwq; clear hSwq; go_simp; with_reducible rfl)
  try simp only [Act.put, List.setIfInBounds_toArray, List.set_cons_zero, List.set_cons_succ]
  refine rest_one (i := 38) (by kernel_rfl) rfl (by rfl) ?_
  go_wp2_with fail
  refine (HW.out _).mono ?_
  rintro e w10 ⟨rfl, m10⟩
  go_wp2_with fail
  refine back_to (K1 := []) m10 (by simp) ?_
  refine rest_got (i := 39) (v := ?v30) rfl (by kernel_rfl) (by kernel_rfl) (by kernel_rfl) (fun _ _ _ h => h) (by rfl) ?y30 ?r30
  case y30 => (intro w9q hSwq; clear hSwq; go_simp; with_reducible rfl)
  try simp only [Act.put, List.setIfInBounds_toArray, List.set_cons_zero, List.set_cons_succ]
  refine rest_got (i := 40) (v := ?v31) rfl (by kernel_rfl) (by kernel_rfl) (by kernel_rfl) (fun _ _ _ h => h) (by rfl) ?y31 ?r31
  case y31 => (intro w9q hSwq; clear hSwq; go_simp; with_reducible rfl)
  try simp only [Act.put, List.setIfInBounds_toArray, List.set_cons_zero, List.set_cons_succ]
  refine rest_done (by kernel_rfl) ?_ _
  go_wp2
  go_ret
  exact ⟨rfl, M9.out.trans' m10⟩
end Go.Proofs.Ytodkjkfaaamlaaa
