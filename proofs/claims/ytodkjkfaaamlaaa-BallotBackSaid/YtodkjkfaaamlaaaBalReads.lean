/- The walk of BallotReads. -/
import Derived.Test.YtodkjkfaaamlaaaBalTake
namespace Go.Proofs.Ytodkjkfaaamlaaa
open Go Go.RowKit Go.Lib

theorem Mod.fresh1 {a b c : World} {g : Nat} (h : Mod [] a b) (k : Mod [g] b c) (hg : a.heap.size ≤ g) : Mod [] a c :=
  h.trans k (fun i hi hl => by simp only [List.mem_singleton] at hi; subst hi; omega)
theorem uintR_err3 : ∀ (k i n : Nat) (l : List UInt8), (uintR k i n l).2.1 = 0 ∨ ((uintR k i n l).2.1 = 10 ∨ (uintR k i n l).2.1 = 11)
  | 0, _, _, _ => .inl rfl
  | k + 1, i, n, [] => .inr (.inl rfl)
  | k + 1, i, n, c :: r => by
    unfold uintR
    split
    · exact .inr (.inr rfl)
    · split
      · exact .inl rfl
      · exact uintR_err3 k _ _ r
theorem uintE_err3 (l : List UInt8) : (uintE 10 0 0 0 l).2.1 = 0 ∨ ((uintE 10 0 0 0 l).2.1 = 10 ∨ (uintE 10 0 0 0 l).2.1 = 11) := by
  unfold uintE
  rw [if_pos rfl]
  exact uintR_err3 _ _ _ _
theorem takeB_cases (l : List UInt8) : (∃ e e' l', (e = 10 ∨ e = 11) ∧ takeB 0 l = (0, 0, e, e', l')) ∨
    ∃ n r l', takeB 0 l = (n, r, 0, 0, l') ∧ n < 18446744073709551616 ∧ r < 7 ∧ l = enc7 n ++ enc7 r ++ l' := by
  have h1 := uintE_err3 l
  have h4 := uintE_lt 0 l
  have h5 := uintE_read (uintE 10 0 0 0 l).1 l (uintE 10 0 0 0 l).2.2
  unfold takeB
  generalize uintE 10 0 0 0 l = u at *
  obtain ⟨n, e1, l1⟩ := u
  dsimp only at *
  by_cases he : e1 = 0
  · subst he
    have h2 := uintE_err3 l1
    have h3 := uintE_read (uintE 10 0 0 0 l1).1 l1 (uintE 10 0 0 0 l1).2.2
    generalize uintE 10 0 0 0 l1 = v at *
    obtain ⟨r, e2, l2⟩ := v
    dsimp only at *
    by_cases he2 : e2 = 0
    · subst he2
      rw [if_neg (by simp)]
      by_cases h7 : 7 ≤ r
      · rw [if_pos h7]; exact .inl ⟨_, _, _, .inr rfl, rfl⟩
      · rw [if_neg h7]
        exact .inr ⟨n, r, l2, rfl, h4, by omega, by rw [h5 rfl, List.append_assoc, h3 rfl]⟩
    · rw [if_pos he2]
      exact .inl ⟨_, _, _, h2.resolve_left he2, rfl⟩
  · have : uintE 10 0 0 e1 l1 = (0, e1, l1) := by unfold uintE; rw [if_neg he]
    rw [this]
    dsimp only
    rw [if_pos he]
    exact .inl ⟨_, _, _, h1.resolve_left he, rfl⟩

set_option maxRecDepth 100000 in
set_option maxHeartbeats 4000000 in
theorem ballotReads_any (bo : Option Addr) (len cap : Nat) (b : List UInt8) (w : World) (hl : b.length = len) (hc : len ≤ cap) (hm : cap ≤ 9223372036854775807) (hs : Sees w bo b) :
    Calls Try.prog 8 #[.slice bo len cap] w fun e w' => e = .returned (.bool true) ∧ Mod [] w w' := by
  subst hl
  have HS := Lib.hid hs
  have HTB := Lib.hid (takeB_cases b)
  clear hs
  by_cases hbig : 100 < b.length
  · go_enter Try.func8, Try.ntmps8
    go_wp2_with fail
    refine (wakes14_any _).mono ?_
    rintro e w3 ⟨rfl, m3⟩
    have M3 := Lib.hid m3
    clear m3
    go_wp2
    go_ret
    exact ⟨rfl, M3.out⟩
  go_enter Try.func8, Try.ntmps8
  go_wp2_with fail
  refine (newReader_any bo _ cap b 100 _ rfl hc hm HS.out).mono ?_
  rintro e w1 ⟨g, rfl, r1, m1, z1⟩
  have M1 := Lib.hid m1
  have R1 := Lib.hid r1
  have G := Lib.hid z1
  clear m1 r1 z1
  go_wp2_with fail
  refine (take_any g _ 0 b 100 _ R1.out (fun k hk => Nat.lt_of_lt_of_le (HS.out.ltOf k hk) M1.out.size)).mono ?_
  rcases HTB.out with ⟨er, e', l', he, ht⟩ | ⟨n, r, l', ht, hn, hr, hb⟩
  · rw [ht]
    rintro e w2 ⟨rfl, r2, m2⟩
    have M2 := Lib.hid (M1.out.fresh1 m2 G.out)
    clear r2 m2 R1 HTB ht
    rcases he with rfl | rfl
    · go_wp2_with fail
      refine (wakes14_any _).mono ?_
      rintro e w3 ⟨rfl, m3⟩
      have M3 := Lib.hid ((M2.out.trans' (Mod.alloc _ _ _)).trans' m3)
      clear m3
      go_wp2
      go_ret
      exact ⟨rfl, M3.out⟩
    · go_wp2_with fail
      refine (wakes14_any _).mono ?_
      rintro e w3 ⟨rfl, m3⟩
      have M3 := Lib.hid ((M2.out.trans' (Mod.alloc _ _ _)).trans' m3)
      clear m3
      go_wp2
      go_ret
      exact ⟨rfl, M3.out⟩
  · rw [ht]
    rintro e w2 ⟨rfl, r2, m2⟩
    have M2 := Lib.hid (M1.out.fresh1 m2 G.out)
    have R2 := Lib.hid r2
    clear r2 m2 R1 HTB ht
    obtain ⟨own, hown⟩ : ∃ own, enc7 n ++ enc7 r = own := ⟨_, rfl⟩
    rw [hown] at hb
    have HB := Lib.hid hb
    clear hb
    go_wp2_with fail
    refine (refBytes_any n r _ hn (by omega)).mono ?_
    rw [hown]
    clear hown
    rintro e w3 ⟨a3, k3, c3, rfl, hk3, o3, m3, n3⟩
    subst hk3
    have mm := (Mod.alloc [] w2 (.cells #[.int .u64 (n : Int), .int .i64 (r : Int)] 24)).trans' m3
    have M3 := Lib.hid (M2.out.trans' mm)
    have R3 := Lib.hid (R2.out.mod0 mm)
    have O3 := Lib.hid o3.sees
    have A1 : Hid (w3.cell? ⟨w2.heap.size, 1, none⟩ = some (.int .i64 (r : Int))) := m3.cell (by go_cell) (by simp [blk])
    have hle : own.length ≤ b.length := by have := congrArg List.length HB.out; rw [List.length_append] at this; omega
    have hd : decide (b.length < own.length) = false := by simp; omega
    have hoc : own.length ≤ cap := by omega
    have htk : Hid (b.take own.length = own) := by show _ = _; rw [HB.out]; simp
    clear m3 n3 o3 mm M2 R2
    go_upto_region 8 with (fail)
    refine rest_start [] 25 #[false, false, false, false, false, false, false, false, false, false, false, false, false, false, false, false, false, false, false, false, false, false, false, false, false] rfl (by kernel_rfl) (by kernel_rfl) ?_
    intro w4 m4
    have M4 := Lib.hid (M3.out.trans' m4)
    have R4 := Lib.hid (R3.out.mod0 m4)
    have O4 := Lib.hid (O3.out.mod0 m4)
    have A2 := Lib.hid (m4.cell A1.out (by simp))
    have B4 := Lib.hid (HS.out.mod0 M4.out)
    clear m4 M3 R3 O3 A1
    have B5 : Hid (Sees w4 bo own) := by have h := B4.out.take own.length; rw [htk.out] at h; exact h
    refine rest_got (i := 0) (v := ?v1) rfl (by kernel_rfl) (by kernel_rfl) (by kernel_rfl) (fun _ _ _ h => h) (by rfl) ?y1 ?r1
    case y1 => (intro w9q hSwq; clear hSwq; go_simp; with_reducible rfl)
    try simp only [Act.put, List.setIfInBounds_toArray, List.set_cons_zero, List.set_cons_succ]
    refine rest_got (i := 1) (v := ?v2) rfl (by kernel_rfl) (by kernel_rfl) (by kernel_rfl) (fun _ _ _ h => h) (by rfl) ?y2 ?r2
    case y2 => (intro w9q hSwq; clear hSwq; go_simp; with_reducible rfl)
    try simp only [Act.put, List.setIfInBounds_toArray, List.set_cons_zero, List.set_cons_succ]
    refine rest_got (i := 2) (v := ?v3) rfl (by kernel_rfl) (by kernel_rfl) (by kernel_rfl) (fun _ _ _ h => h) (by rfl) ?y3 ?r3
    case y3 => (intro w9q hSwq; clear hSwq; go_simp; with_reducible rfl)
    try simp only [Act.put, List.setIfInBounds_toArray, List.set_cons_zero, List.set_cons_succ]
    refine rest_got (i := 3) (v := ?v4) rfl (by kernel_rfl) (by kernel_rfl) (by kernel_rfl) (fun _ _ _ h => h) (by rfl) ?y4 ?r4
    case y4 => (intro w9q hSwq; clear hSwq; go_simp; with_reducible rfl)
    try simp only [Act.put, List.setIfInBounds_toArray, List.set_cons_zero, List.set_cons_succ]
    refine rest_got (i := 4) (v := ?v5) rfl (by kernel_rfl) (by kernel_rfl) (by kernel_rfl) (fun _ _ _ h => h) (by rfl) ?y5 ?r5
    case y5 => (intro w9q hSwq; clear hSwq; go_simp; with_reducible rfl)
    try simp only [Act.put, List.setIfInBounds_toArray, List.set_cons_zero, List.set_cons_succ]
    refine rest_got (i := 5) (v := ?v6) rfl (by kernel_rfl) (by kernel_rfl) (by kernel_rfl) (fun _ _ _ h => h) (by rfl) ?y6 ?r6
    case y6 => (intro w9q hSwq; clear hSwq; go_simp; with_reducible rfl)
    try simp only [Act.put, List.setIfInBounds_toArray, List.set_cons_zero, List.set_cons_succ]
    refine rest_got (i := 6) (v := ?v7) rfl (by kernel_rfl) (by kernel_rfl) (by kernel_rfl) (fun _ _ _ h => h) (by rfl) ?y7 ?r7
    case y7 => (intro w9q hSwq; clear hSwq; go_simp; with_reducible rfl)
    try simp only [Act.put, List.setIfInBounds_toArray, List.set_cons_zero, List.set_cons_succ]
    refine rest_got (i := 7) (v := ?v8) rfl (by kernel_rfl) (by kernel_rfl) (by kernel_rfl) (fun _ _ _ h => h) (by rfl) ?y8 ?r8
    case y8 => ((intro w9' hm9'; refine Eq.trans (reads_str _ _ _ _ 5 Try.underlying35 Try.underlying5 Try.underlying9 _ _ _ _ rfl (by first | rfl | simp) O4.out (by first | (intro k _ hk; exact (List.not_mem_nil hk)) | simp) w9' hm9') ?_; with_reducible rfl))
    try simp only [Act.put, List.setIfInBounds_toArray, List.set_cons_zero, List.set_cons_succ]
    refine rest_got (i := 8) (v := ?v9) rfl (by kernel_rfl) (by kernel_rfl) (by kernel_rfl) (fun _ _ _ h => h) (by rfl) ?y9 ?r9
    case y9 => (intro w9q hSwq; clear hSwq; go_simp; with_reducible rfl)
    try simp only [Act.put, List.setIfInBounds_toArray, List.set_cons_zero, List.set_cons_succ]
    refine rest_got (i := 9) (v := ?v10) rfl (by kernel_rfl) (by kernel_rfl) (by kernel_rfl) (fun _ _ _ h => h) (by rfl) ?y10 ?r10
    case y10 => (intro w9q hSwq; clear hSwq; go_simp; with_reducible rfl)
    try simp only [Act.put, List.setIfInBounds_toArray, List.set_cons_zero, List.set_cons_succ]
    refine rest_got (i := 10) (v := ?v11) rfl (by kernel_rfl) (by kernel_rfl) (by kernel_rfl) (fun _ _ _ h => h) (by rfl) ?y11 ?r11
    case y11 => (intro w9q hSwq; clear hSwq; go_simp; with_reducible rfl)
    try simp only [Act.put, List.setIfInBounds_toArray, List.set_cons_zero, List.set_cons_succ]
    refine rest_got (i := 11) (v := ?v12) rfl (by kernel_rfl) (by kernel_rfl) (by kernel_rfl) (fun _ _ _ h => h) (by rfl) ?y12 ?r12
    case y12 => (intro w9q hSwq; clear hSwq; go_simp; with_reducible rfl)
    try simp only [Act.put, List.setIfInBounds_toArray, List.set_cons_zero, List.set_cons_succ]
    refine rest_got (i := 12) (v := ?v13) rfl (by kernel_rfl) (by kernel_rfl) (by kernel_rfl) (fun _ _ _ h => h) (by rfl) ?y13 ?r13
    case y13 => ((intro w9' hm9'; refine Eq.trans (reads_str _ _ _ _ 5 Try.underlying35 Try.underlying5 Try.underlying9 _ _ _ _ rfl (by first | rfl | simp) B5.out (by first | (intro k _ hk; exact (List.not_mem_nil hk)) | simp) w9' hm9') ?_; with_reducible rfl))
    try simp only [Act.put, List.setIfInBounds_toArray, List.set_cons_zero, List.set_cons_succ]
    refine rest_got (i := 13) (v := ?v14) rfl (by kernel_rfl) (by kernel_rfl) (by kernel_rfl) (fun _ _ _ h => h) (by rfl) ?y14 ?r14
    case y14 => ((intro w9' hm9'; refine Eq.trans (reads_nes w9' _ _ _ _ _ rfl rfl) ?_; refine Eq.trans (congrArg (fun b => Result.ok (Next.value (Value.bool (!b))) w9') (decide_eq_true rfl)) ?_; with_reducible rfl))
    try simp only [Act.put, List.setIfInBounds_toArray, List.set_cons_zero, List.set_cons_succ]
    refine rest_got (i := 14) (v := ?v15) rfl (by kernel_rfl) (by kernel_rfl) (by kernel_rfl) (fun _ _ _ h => h) (by rfl) ?y15 ?r15
    case y15 => (intro w9q hSwq; clear hSwq; go_simp; with_reducible rfl)
    try simp only [Act.put, List.setIfInBounds_toArray, List.set_cons_zero, List.set_cons_succ]
    refine rest_got (i := 15) (v := ?v16) rfl (by kernel_rfl) (by kernel_rfl) (by kernel_rfl) (fun _ _ _ h => h) (by rfl) ?y16 ?r16
    case y16 => (intro w9q hSwq; clear hSwq; go_simp; with_reducible rfl)
    try simp only [Act.put, List.setIfInBounds_toArray, List.set_cons_zero, List.set_cons_succ]
    refine rest_got (i := 16) (v := ?v17) rfl (by kernel_rfl) (by kernel_rfl) (by kernel_rfl) (fun _ _ _ h => h) (by rfl) ?y17 ?r17
    case y17 => (intro w9q hSwq; clear hSwq; go_simp; with_reducible rfl)
    try simp only [Act.put, List.setIfInBounds_toArray, List.set_cons_zero, List.set_cons_succ]
    refine rest_got (i := 17) (v := ?v18) rfl (by kernel_rfl) (by kernel_rfl) (by kernel_rfl) (fun _ _ _ h => h) (by rfl) ?y18 ?r18
    case y18 => ((intro w9' hm9'; have hc9' := Mod.cell hm9' A2.out (by first | exact List.not_mem_nil | (simp; omega)); clear hm9'; go_simp; with_reducible rfl))
    try simp only [Act.put, List.setIfInBounds_toArray, List.set_cons_zero, List.set_cons_succ]
    refine rest_got (i := 18) (v := ?v19) rfl (by kernel_rfl) (by kernel_rfl) (by kernel_rfl) (fun _ _ _ h => h) (by rfl) ?y19 ?r19
    case y19 => (intro w9q hSwq; clear hSwq; go_simp; with_reducible rfl)
    try simp only [Act.put, List.setIfInBounds_toArray, List.set_cons_zero, List.set_cons_succ]
    refine rest_got (i := 19) (v := ?v20) rfl (by kernel_rfl) (by kernel_rfl) (by kernel_rfl) (fun _ _ _ h => h) (by rfl) ?y20 ?r20
    case y20 => (intro w9q hSwq; clear hSwq; go_simp; with_reducible rfl)
    try simp only [Act.put, List.setIfInBounds_toArray, List.set_cons_zero, List.set_cons_succ]
    refine rest_got (i := 20) (v := ?v21) rfl (by kernel_rfl) (by kernel_rfl) (by kernel_rfl) (fun _ _ _ h => h) (by rfl) ?y21 ?r21
    case y21 => (intro w9q hSwq; clear hSwq; go_simp; with_reducible rfl)
    try simp only [Act.put, List.setIfInBounds_toArray, List.set_cons_zero, List.set_cons_succ]
    refine rest_got (i := 21) (v := ?v22) rfl (by kernel_rfl) (by kernel_rfl) (by kernel_rfl) (fun _ _ _ h => h) (by rfl) ?y22 ?r22
    case y22 => (intro w9q hSwq; clear hSwq; go_simp; with_reducible rfl)
    try simp only [Act.put, List.setIfInBounds_toArray, List.set_cons_zero, List.set_cons_succ]
    refine rest_got (i := 22) (v := ?v23) rfl (by kernel_rfl) (by kernel_rfl) (by kernel_rfl) (fun _ _ _ h => h) (by rfl) ?y23 ?r23
    case y23 => ((intro w9' hm9'; have hc9' := Mod.cell hm9' A2.out (by first | exact List.not_mem_nil | (simp; omega)); clear hm9'; go_simp; with_reducible rfl))
    try simp only [Act.put, List.setIfInBounds_toArray, List.set_cons_zero, List.set_cons_succ]
    refine rest_got (i := 23) (v := ?v24) rfl (by kernel_rfl) (by kernel_rfl) (by kernel_rfl) (fun _ _ _ h => h) (by rfl) ?y24 ?r24
    case y24 => (intro w9q hSwq; clear hSwq; go_simp; with_reducible rfl)
    try simp only [Act.put, List.setIfInBounds_toArray, List.set_cons_zero, List.set_cons_succ]
    refine rest_got (i := 24) (v := ?v25) rfl (by kernel_rfl) (by kernel_rfl) (by kernel_rfl) (fun _ _ _ h => h) (by rfl) ?y25 ?r25
    case y25 => (intro w9q hSwq; clear hSwq; go_simp; with_reducible rfl)
    try simp only [Act.put, List.setIfInBounds_toArray, List.set_cons_zero, List.set_cons_succ]
    refine rest_done (by kernel_rfl) ?_ _
    go_wp2_with fail
    refine (rdone_any g _ 0 l' 100 _ R4.out).mono ?_
    rintro e w5 ⟨rfl, r5, m5⟩
    have M5 := Lib.hid (M4.out.fresh1 m5 G.out)
    clear r5 m5 R4 A2 M4 B4 B5 O4
    have hlb : b.length = own.length + l'.length := by have := congrArg List.length HB.out; rw [List.length_append] at this; omega
    by_cases hl0 : l' = []
    · have hdn : doneR 0 l' = 0 := by simp [doneR, hl0]
      have hll : l'.length = 0 := by rw [hl0]; rfl
      have heq : ((own.length : Int) == (b.length : Int)) = true := by simp; omega
      clear hlb hll hle hd hoc htk
      rw [hdn]
      go_wp2_with fail
      refine (wakes14_any _).mono ?_
      rintro e w9 ⟨rfl, m9⟩
      have M9 := Lib.hid (M5.out.trans' m9)
      clear m9
      go_wp2
      go_ret
      exact ⟨rfl, M9.out⟩
    · have hdn : doneR 0 l' = 11 := by simp [doneR, hl0]
      have hll : ¬ l'.length = 0 := fun h => hl0 (List.eq_nil_of_length_eq_zero h)
      have heq : ((own.length : Int) == (b.length : Int)) = false := by simp; omega
      clear hlb hll hle hd hoc htk
      rw [hdn]
      go_wp2_with fail
      refine (wakes14_any _).mono ?_
      rintro e w9 ⟨rfl, m9⟩
      have M9 := Lib.hid (M5.out.trans' m9)
      clear m9
      go_wp2
      go_ret
      exact ⟨rfl, M9.out⟩
end Go.Proofs.Ytodkjkfaaamlaaa
