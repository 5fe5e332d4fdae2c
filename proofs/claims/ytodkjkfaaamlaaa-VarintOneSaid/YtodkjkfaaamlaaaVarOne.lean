/- The walk of the law VarintOne. -/
import Derived.Test.YtodkjkfaaamlaaaVarBack
namespace Go.Proofs.Ytodkjkfaaamlaaa
open Go Go.RowKit Go.Lib

set_option maxRecDepth 100000 in
set_option maxHeartbeats 4000000 in
theorem varintOne_any (bo : Option Addr) (lb cb : Nat) (b : List UInt8) (n m : Nat) (w : World) (hlb : b.length = lb) (hsees : Sees w bo b) (hlc : lb ≤ cb) (hmb : cb ≤ 9223372036854775807)
    (hn : n < 18446744073709551616) (hm : m < 18446744073709551616) :
    Calls Try.prog 6 #[.slice bo lb cb, .int .u64 (n : Int), .int .u64 (m : Int)] w fun e w' => e = .returned (.bool true) ∧ Mod [] w w' := by
  subst hlb
  have HB := Lib.hid hsees
  clear hsees
  by_cases hb : 20 < b.length
  · go_enter Try.func6, Try.ntmps6
    go_wp2_with (go_at_call 15; refine (wakes01_any _).mono ?_; rintro e w1 ⟨rfl, hm1⟩)
    go_ret
    exact ⟨rfl, by assumption⟩
  have hr : Hid (doneR (uintE 10 0 0 0 b).2.1 (uintE 10 0 0 0 b).2.2 = 0 → enc7 (uintE 10 0 0 0 b).1 = b) := by
    intro h
    have h1 : (uintE 10 0 0 0 b).2.1 = 0 := by unfold doneR at h; split at h <;> simp_all
    have h2 : (uintE 10 0 0 0 b).2.2 = [] := by unfold doneR at h; rw [if_pos h1] at h; split at h <;> simp_all
    have := uintE_read (uintE 10 0 0 0 b).1 b [] (by
      revert h1 h2; generalize uintE 10 0 0 0 b = u; obtain ⟨p, q, r⟩ := u; intro h1 h2; simp only at h1 h2; subst h1 h2; rfl)
    rw [List.append_nil] at this
    exact this.symm
  have hx := uintE_lt 0 b
  have hi : Hid (¬ n = m → ¬ enc7 n = enc7 m) := fun h h' => h (enc7_inj n m hn hm h')
  go_enter Try.func6, Try.ntmps6
  go_wp2_with fail
  refine (newReader_any bo _ cb b 0 _ rfl hlc hmb HB.out).mono ?_
  rintro e w1 ⟨g, rfl, r1, m1, z1⟩
  have M1 := Lib.hid m1
  have R1 := Lib.hid r1
  have G : Hid (w.heap.size ≤ g) := z1
  have HB1 := Lib.hid (HB.out.mod0 m1)
  clear m1 r1 z1
  go_wp2_with fail
  refine (ruint_any g _ 0 b 0 _ R1.out).mono ?_
  rintro e w2 ⟨rfl, r2, m2⟩
  revert r2 hr hx
  generalize uintE 10 0 0 0 b = u
  obtain ⟨x, e1, l1⟩ := u
  intro hr hx r2
  simp only at hx r2 ⊢
  have hr' := hr.out
  simp only at hr'
  have HR := Lib.hid hr'
  clear hr hr'
  have R2 := Lib.hid r2
  have M2 := Lib.hid (M1.out.new1 m2 G.out)
  have HB2 := Lib.hid (HB.out.mod0 M2.out)
  have GB : Hid (∀ k, k ∈ blkOf bo b → k < g) := fun k hk => Nat.lt_of_lt_of_le (HB.out.ltOf k hk) G.out
  clear r2 m2 M1 R1 HB1
  go_upto_region 5 with (fail)
  go_cut [27] from 17 (fun s wx => s = .bool false ∧ Mod [] w wx)
  case first =>
    refine rest_start [g] 11 #[false, false, false, false, false, false, false, false, false, false, false] rfl (by kernel_rfl) (by kernel_rfl) ?_
    intro w3 m3
    have HB3 := Lib.hid (HB2.out.mod0 m3)
    have M3 := Lib.hid (M2.out.trans' m3)
    have R3 := Lib.hid (R2.out.mod0 m3)
    clear m3 M2 R2 HB2
    refine rest_got (i := 0) (v := ?v1) rfl (by kernel_rfl) (by kernel_rfl) (by kernel_rfl) (fun _ _ _ h => h) (by rfl) ?y1 ?r1
    case y1 => (intro w9q hSwq; clear hSwq; go_simp; with_reducible rfl)
    try simp only [Act.put, List.setIfInBounds_toArray, List.set_cons_zero, List.set_cons_succ]
    refine rest_one (i := 1) (by kernel_rfl) rfl (by rfl) ?_
    go_wp2_with fail
    refine (rdone_any g _ e1 l1 0 _ R3.out).mono ?_
    rintro e w4 ⟨rfl, r4, m4⟩
    have M4 := Lib.hid (M3.out.new1 m4 G.out)
    have HB4 := Lib.hid (HB.out.mod0 M4.out)
    by_cases hd : doneR e1 l1 = 0
    · rw [hd]
      have hx2 := HR.out hd
      subst hx2
      go_wp2_with fail
      refine back_to (K1 := []) m4 (by simp) ?_
      clear M3 R3 HB3 r4 m4
      refine rest_got (i := 2) (v := ?v2) rfl (by kernel_rfl) (by kernel_rfl) (by kernel_rfl) (fun _ _ _ h => h) (by rfl) ?y2 ?r2
      case y2 => (intro w9q hSwq; clear hSwq; go_simp; with_reducible rfl)
      try simp only [Act.put, List.setIfInBounds_toArray, List.set_cons_zero, List.set_cons_succ]
      refine rest_got (i := 3) (v := ?v3) rfl (by kernel_rfl) (by kernel_rfl) (by kernel_rfl) (fun _ _ _ h => h) (by rfl) ?y3 ?r3
      case y3 => (intro w9q hSwq; clear hSwq; go_simp; with_reducible rfl)
      try simp only [Act.put, List.setIfInBounds_toArray, List.set_cons_zero, List.set_cons_succ]
      refine rest_got (i := 4) (v := ?v4) rfl (by kernel_rfl) (by kernel_rfl) (by kernel_rfl) (fun _ _ _ h => h) (by rfl) ?y4 ?r4
      case y4 => (intro w9q hSwq; clear hSwq; go_simp; with_reducible rfl)
      try simp only [Act.put, List.setIfInBounds_toArray, List.set_cons_zero, List.set_cons_succ]
      refine rest_got (i := 7) (v := ?v5) rfl (by kernel_rfl) (by kernel_rfl) (by kernel_rfl) (fun _ _ _ h => h) (by rfl) ?y5 ?r5
      case y5 => (intro w9q hSwq; clear hSwq; go_simp; with_reducible rfl)
      try simp only [Act.put, List.setIfInBounds_toArray, List.set_cons_zero, List.set_cons_succ]
      refine rest_got (i := 8) (v := ?v6) rfl (by kernel_rfl) (by kernel_rfl) (by kernel_rfl) (fun _ _ _ h => h) (by rfl) ?y6 ?r6
      case y6 => ((intro w9' hm9'; refine Eq.trans (reads_str _ _ _ _ 5 Try.underlying35 Try.underlying5 Try.underlying9 _ _ _ _ rfl (by first | rfl | simp) HB4.out (by first | (intro k _ hk; exact (List.not_mem_nil hk)) | simp) w9' hm9') ?_; with_reducible rfl))
      try simp only [Act.put, List.setIfInBounds_toArray, List.set_cons_zero, List.set_cons_succ]
      refine rest_one (i := 5) (by kernel_rfl) rfl (by rfl) ?_
      go_wp2_with fail
      refine (vuint_any none 0 0 x [] _ rfl (OwnB.nil _) hx (by omega)).mono ?_
      rintro e w5 ⟨a5, k5, c5, rfl, hk5, o5, m5, n5⟩
      subst hk5
      go_wp2_with fail
      refine back_to (K1 := []) m5 (by simp) ?_
      have M5 := Lib.hid (M4.out.trans' m5)
      have HB5 := Lib.hid (HB4.out.mod0 m5)
      have O5 := Lib.hid o5
      clear M4 HB4 m5 n5 o5
      refine rest_got (i := 6) (v := ?v7) rfl (by kernel_rfl) (by kernel_rfl) (by kernel_rfl) (fun _ _ _ h => h) (by rfl) ?y7 ?r7
      case y7 => ((intro w9' hm9'; refine Eq.trans (reads_str _ _ _ _ 5 Try.underlying35 Try.underlying5 Try.underlying9 _ _ _ _ rfl (by first | rfl | simp) (O5.out.sees) (by first | (intro k _ hk; exact (List.not_mem_nil hk)) | simp) w9' hm9') ?_; with_reducible rfl))
      try simp only [Act.put, List.setIfInBounds_toArray, List.set_cons_zero, List.set_cons_succ]
      refine rest_got (i := 9) (v := ?v8) rfl (by kernel_rfl) (by kernel_rfl) (by kernel_rfl) (fun _ _ _ h => h) (by rfl) ?y8 ?r8
      case y8 => (intro w9q hSwq; clear hSwq; go_simp; with_reducible rfl)
      try simp only [Act.put, List.setIfInBounds_toArray, List.set_cons_zero, List.set_cons_succ]
      refine rest_got (i := 10) (v := ?v9) rfl (by kernel_rfl) (by kernel_rfl) (by kernel_rfl) (fun _ _ _ h => h) (by rfl) ?y9 ?r9
      case y9 => (intro w9q hSwq; clear hSwq; go_simp; with_reducible rfl)
      try simp only [Act.put, List.setIfInBounds_toArray, List.set_cons_zero, List.set_cons_succ]
      refine rest_done (by kernel_rfl) ?_ _
      go_wp2
      go_meet
      exact ⟨rfl, M5.out⟩
    · have hd2 : (doneR e1 l1 == 0) = false := by simpa using hd
      go_wp2_with fail
      refine back_to (K1 := []) m4 (by simp) ?_
      refine rest_got (i := 2) (v := ?v10) rfl (by kernel_rfl) (by kernel_rfl) (by kernel_rfl) (fun _ _ _ h => h) (by rfl) ?y10 ?r10
      case y10 => (intro w9q hSwq; clear hSwq; go_simp; with_reducible rfl)
      try simp only [Act.put, List.setIfInBounds_toArray, List.set_cons_zero, List.set_cons_succ]
      refine rest_got (i := 3) (v := ?v11) rfl (by kernel_rfl) (by kernel_rfl) (by kernel_rfl) (fun _ _ _ h => h) (by rfl) ?y11 ?r11
      case y11 => (intro w9q hSwq; clear hSwq; go_simp; with_reducible rfl)
      try simp only [Act.put, List.setIfInBounds_toArray, List.set_cons_zero, List.set_cons_succ]
      refine rest_skip (i := 4) rfl (by kernel_rfl) (by kernel_rfl) (by kernel_rfl) (fun _ _ _ h => h) (by rfl) ?_
      try simp only [Act.put, List.setIfInBounds_toArray, List.set_cons_zero, List.set_cons_succ]
      refine rest_skip (i := 5) rfl (by kernel_rfl) (by kernel_rfl) (by kernel_rfl) (fun _ _ _ h => h) (by rfl) ?_
      try simp only [Act.put, List.setIfInBounds_toArray, List.set_cons_zero, List.set_cons_succ]
      refine rest_skip (i := 6) rfl (by kernel_rfl) (by kernel_rfl) (by kernel_rfl) (fun _ _ _ h => h) (by rfl) ?_
      try simp only [Act.put, List.setIfInBounds_toArray, List.set_cons_zero, List.set_cons_succ]
      refine rest_skip (i := 7) rfl (by kernel_rfl) (by kernel_rfl) (by kernel_rfl) (fun _ _ _ h => h) (by rfl) ?_
      try simp only [Act.put, List.setIfInBounds_toArray, List.set_cons_zero, List.set_cons_succ]
      refine rest_skip (i := 8) rfl (by kernel_rfl) (by kernel_rfl) (by kernel_rfl) (fun _ _ _ h => h) (by rfl) ?_
      try simp only [Act.put, List.setIfInBounds_toArray, List.set_cons_zero, List.set_cons_succ]
      refine rest_skip (i := 9) rfl (by kernel_rfl) (by kernel_rfl) (by kernel_rfl) (fun _ _ _ h => h) (by rfl) ?_
      try simp only [Act.put, List.setIfInBounds_toArray, List.set_cons_zero, List.set_cons_succ]
      refine rest_got (i := 10) (v := ?v12) rfl (by kernel_rfl) (by kernel_rfl) (by kernel_rfl) (fun _ _ _ h => h) (by rfl) ?y12 ?r12
      case y12 => (intro w9q hSwq; clear hSwq; go_simp; with_reducible rfl)
      try simp only [Act.put, List.setIfInBounds_toArray, List.set_cons_zero, List.set_cons_succ]
      refine rest_done (by kernel_rfl) ?_ _
      go_wp2
      go_meet
      exact ⟨rfl, M4.out⟩
  case rest =>
    obtain ⟨rfl, mc⟩ := hcut
    have M2' := Lib.hid mc
    clear mc M2 R2 HB2
    go_upto_region 7 with (fail)
    refine rest_start [] 15 #[false, false, false, false, false, false, false, false, false, false, false, false, false, false, false] rfl (by kernel_rfl) (by kernel_rfl) ?_
    intro w3 m3
    have M3 := Lib.hid (M2'.out.trans' m3)
    clear m3 M2'
    refine rest_got (i := 0) (v := ?v13) rfl (by kernel_rfl) (by kernel_rfl) (by kernel_rfl) (fun _ _ _ h => h) (by rfl) ?y13 ?r13
    case y13 => (intro w9q hSwq; clear hSwq; go_simp; with_reducible rfl)
    try simp only [Act.put, List.setIfInBounds_toArray, List.set_cons_zero, List.set_cons_succ]
    refine rest_got (i := 3) (v := ?v14) rfl (by kernel_rfl) (by kernel_rfl) (by kernel_rfl) (fun _ _ _ h => h) (by rfl) ?y14 ?r14
    case y14 => (intro w9q hSwq; clear hSwq; go_simp; with_reducible rfl)
    try simp only [Act.put, List.setIfInBounds_toArray, List.set_cons_zero, List.set_cons_succ]
    refine rest_got (i := 7) (v := ?v15) rfl (by kernel_rfl) (by kernel_rfl) (by kernel_rfl) (fun _ _ _ h => h) (by rfl) ?y15 ?r15
    case y15 => (intro w9q hSwq; clear hSwq; go_simp; with_reducible rfl)
    try simp only [Act.put, List.setIfInBounds_toArray, List.set_cons_zero, List.set_cons_succ]
    refine rest_got (i := 8) (v := ?v16) rfl (by kernel_rfl) (by kernel_rfl) (by kernel_rfl) (fun _ _ _ h => h) (by rfl) ?y16 ?r16
    case y16 => (intro w9q hSwq; clear hSwq; go_simp; with_reducible rfl)
    try simp only [Act.put, List.setIfInBounds_toArray, List.set_cons_zero, List.set_cons_succ]
    refine rest_got (i := 9) (v := ?v17) rfl (by kernel_rfl) (by kernel_rfl) (by kernel_rfl) (fun _ _ _ h => h) (by rfl) ?y17 ?r17
    case y17 => (intro w9q hSwq; clear hSwq; go_simp; with_reducible rfl)
    try simp only [Act.put, List.setIfInBounds_toArray, List.set_cons_zero, List.set_cons_succ]
    refine rest_one (i := 1) (by kernel_rfl) rfl (by rfl) ?_
    go_wp2_with fail
    refine (vuint_any none 0 0 n [] _ rfl (OwnB.nil _) hn (by omega)).mono ?_
    rintro e w5 ⟨a5, k5, c5, rfl, hk5, o5, m5, n5⟩
    subst hk5
    go_wp2_with fail
    refine back_to (K1 := []) m5 (by simp) ?_
    have M5 := Lib.hid (M3.out.trans' m5)
    have O5 := Lib.hid o5
    clear M3 m5 n5 o5
    refine rest_got (i := 2) (v := ?v18) rfl (by kernel_rfl) (by kernel_rfl) (by kernel_rfl) (fun _ _ _ h => h) (by rfl) ?y18 ?r18
    case y18 => ((intro w9' hm9'; refine Eq.trans (reads_str _ _ _ _ 5 Try.underlying35 Try.underlying5 Try.underlying9 _ _ _ _ rfl (by first | rfl | simp) (O5.out.sees) (by first | (intro k _ hk; exact (List.not_mem_nil hk)) | simp) w9' hm9') ?_; with_reducible rfl))
    try simp only [Act.put, List.setIfInBounds_toArray, List.set_cons_zero, List.set_cons_succ]
    refine rest_one (i := 4) (by kernel_rfl) rfl (by rfl) ?_
    go_wp2_with fail
    refine (vuint_any none 0 0 m [] _ rfl (OwnB.nil _) hm (by omega)).mono ?_
    rintro e w6 ⟨a6, k6, c6, rfl, hk6, o6, m6, n6⟩
    subst hk6
    go_wp2_with fail
    refine back_to (K1 := []) m6 (by simp) ?_
    have M6 := Lib.hid (M5.out.trans' m6)
    have O6 := Lib.hid o6
    clear M5 m6 n6 o6
    by_cases hnm : n = m
    · subst hnm
      refine rest_got (i := 5) (v := ?v19) rfl (by kernel_rfl) (by kernel_rfl) (by kernel_rfl) (fun _ _ _ h => h) (by rfl) ?y19 ?r19
      case y19 => ((intro w9' hm9'; refine Eq.trans (reads_str _ _ _ _ 5 Try.underlying35 Try.underlying5 Try.underlying9 _ _ _ _ rfl (by first | rfl | simp) (O6.out.sees) (by first | (intro k _ hk; exact (List.not_mem_nil hk)) | simp) w9' hm9') ?_; with_reducible rfl))
      try simp only [Act.put, List.setIfInBounds_toArray, List.set_cons_zero, List.set_cons_succ]
      refine rest_got (i := 6) (v := ?v20) rfl (by kernel_rfl) (by kernel_rfl) (by kernel_rfl) (fun _ _ _ h => h) (by rfl) ?y20 ?r20
      case y20 => ((intro w9' hm9'; refine Eq.trans (reads_eqs w9' _ _ _ _ _ rfl rfl) ?_; refine Eq.trans (congrArg (fun b => Result.ok (Next.value (Value.bool b)) w9') (decide_eq_true rfl)) ?_; with_reducible rfl))
      try simp only [Act.put, List.setIfInBounds_toArray, List.set_cons_zero, List.set_cons_succ]
      refine rest_got (i := 10) (v := ?v21) rfl (by kernel_rfl) (by kernel_rfl) (by kernel_rfl) (fun _ _ _ h => h) (by rfl) ?y21 ?r21
      case y21 => (intro w9q hSwq; clear hSwq; go_simp; with_reducible rfl)
      try simp only [Act.put, List.setIfInBounds_toArray, List.set_cons_zero, List.set_cons_succ]
      refine rest_got (i := 11) (v := ?v22) rfl (by kernel_rfl) (by kernel_rfl) (by kernel_rfl) (fun _ _ _ h => h) (by rfl) ?y22 ?r22
      case y22 => (intro w9q hSwq; clear hSwq; go_simp; with_reducible rfl)
      try simp only [Act.put, List.setIfInBounds_toArray, List.set_cons_zero, List.set_cons_succ]
      refine rest_one (i := 12) (by kernel_rfl) rfl (by rfl) ?_
      go_wp2_with fail
      refine (wakes01_any _).mono ?_
      rintro e w7 ⟨rfl, m7⟩
      go_wp2_with fail
      refine back_to (K1 := []) m7 (by simp) ?_
      refine rest_got (i := 13) (v := ?v23) rfl (by kernel_rfl) (by kernel_rfl) (by kernel_rfl) (fun _ _ _ h => h) (by rfl) ?y23 ?r23
      case y23 => (intro w9q hSwq; clear hSwq; go_simp; with_reducible rfl)
      try simp only [Act.put, List.setIfInBounds_toArray, List.set_cons_zero, List.set_cons_succ]
      refine rest_got (i := 14) (v := ?v24) rfl (by kernel_rfl) (by kernel_rfl) (by kernel_rfl) (fun _ _ _ h => h) (by rfl) ?y24 ?r24
      case y24 => (intro w9q hSwq; clear hSwq; go_simp; with_reducible rfl)
      try simp only [Act.put, List.setIfInBounds_toArray, List.set_cons_zero, List.set_cons_succ]
      refine rest_done (by kernel_rfl) ?_ _
      go_wp2
      go_ret
      exact ⟨rfl, M6.out.trans' m7⟩
    · have hne := hi.out hnm
      have hnm2 : ((n : Int) == (m : Int)) = false := by simp; omega
      refine rest_got (i := 5) (v := ?v25) rfl (by kernel_rfl) (by kernel_rfl) (by kernel_rfl) (fun _ _ _ h => h) (by rfl) ?y25 ?r25
      case y25 => ((intro w9' hm9'; refine Eq.trans (reads_str _ _ _ _ 5 Try.underlying35 Try.underlying5 Try.underlying9 _ _ _ _ rfl (by first | rfl | simp) (O6.out.sees) (by first | (intro k _ hk; exact (List.not_mem_nil hk)) | simp) w9' hm9') ?_; with_reducible rfl))
      try simp only [Act.put, List.setIfInBounds_toArray, List.set_cons_zero, List.set_cons_succ]
      refine rest_got (i := 6) (v := ?v26) rfl (by kernel_rfl) (by kernel_rfl) (by kernel_rfl) (fun _ _ _ h => h) (by rfl) ?y26 ?r26
      case y26 => ((intro w9' hm9'; refine Eq.trans (reads_eqs w9' _ _ _ _ _ rfl rfl) ?_; refine Eq.trans (congrArg (fun b => Result.ok (Next.value (Value.bool b)) w9') (decide_eq_false (by simpa using hne))) ?_; with_reducible rfl))
      try simp only [Act.put, List.setIfInBounds_toArray, List.set_cons_zero, List.set_cons_succ]
      refine rest_got (i := 10) (v := ?v27) rfl (by kernel_rfl) (by kernel_rfl) (by kernel_rfl) (fun _ _ _ h => h) (by rfl) ?y27 ?r27
      case y27 => (intro w9q hSwq; clear hSwq; go_simp; with_reducible rfl)
      try simp only [Act.put, List.setIfInBounds_toArray, List.set_cons_zero, List.set_cons_succ]
      refine rest_got (i := 11) (v := ?v28) rfl (by kernel_rfl) (by kernel_rfl) (by kernel_rfl) (fun _ _ _ h => h) (by rfl) ?y28 ?r28
      case y28 => (intro w9q hSwq; clear hSwq; go_simp; with_reducible rfl)
      try simp only [Act.put, List.setIfInBounds_toArray, List.set_cons_zero, List.set_cons_succ]
      refine rest_one (i := 12) (by kernel_rfl) rfl (by rfl) ?_
      go_wp2_with fail
      refine (wakes01_any _).mono ?_
      rintro e w7 ⟨rfl, m7⟩
      go_wp2_with fail
      refine back_to (K1 := []) m7 (by simp) ?_
      refine rest_got (i := 13) (v := ?v29) rfl (by kernel_rfl) (by kernel_rfl) (by kernel_rfl) (fun _ _ _ h => h) (by rfl) ?y29 ?r29
      case y29 => (intro w9q hSwq; clear hSwq; go_simp; with_reducible rfl)
      try simp only [Act.put, List.setIfInBounds_toArray, List.set_cons_zero, List.set_cons_succ]
      refine rest_got (i := 14) (v := ?v30) rfl (by kernel_rfl) (by kernel_rfl) (by kernel_rfl) (fun _ _ _ h => h) (by rfl) ?y30 ?r30
      case y30 => (intro w9q hSwq; clear hSwq; go_simp; with_reducible rfl)
      try simp only [Act.put, List.setIfInBounds_toArray, List.set_cons_zero, List.set_cons_succ]
      refine rest_done (by kernel_rfl) ?_ _
      go_wp2
      go_ret
      exact ⟨rfl, M6.out.trans' m7⟩
end Go.Proofs.Ytodkjkfaaamlaaa
