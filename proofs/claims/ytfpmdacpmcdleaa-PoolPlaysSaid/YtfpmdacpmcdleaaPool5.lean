/- The walks of the pool package: a buffer is filled, told. -/
import Derived.Test.YtfpmdacpmcdleaaPool4
namespace Go.Proofs.Ytfpmdacpmcdleaa
open Go Go.RowKit Go.Lib

set_option maxRecDepth 100000 in
set_option maxHeartbeats 2000000 in
theorem set1_long (g b lc : Nat) (fa : Option Addr) (fc ab sz : Nat) (bufs : List Bf) (fr : List Nat) (arr : List UInt8) (k bb : Nat) (so : Option Addr) (n c : Nat) (w : World) (h : PoolF w g (some ⟨b, 0, none⟩) lc fa fc ab sz bufs fr arr) (hk : k < bufs.length)
    (hb : w.cell? ⟨bb, 0, none⟩ = some (.slice so n c)) (hn : sz < n) :
    Calls Try.prog 20 #[.pointer (some ⟨b, k * 4, none⟩), .pointer (some ⟨bb, 0, none⟩)] w fun e w' => ∃ v, e = .returned (.int .i64 v) ∧ v = 3 ∧ Mod [] w w' := by
  obtain ⟨b', hbb, p0, p1, p2, p3, q1, q2, q3⟩ := OwnBf.at' h.2.1 hk
  cases hbb
  have hd : decide (sz < n) = true := by simpa using hn
  clear h p1 p2 p3 q1 q2 q3
  go_enter Try.func20, Try.ntmps20
  go_upto_region 1 with (fail)
  refine rest_start [] 8 #[false, false, false, false, false, false, false, false] rfl (by kernel_rfl) (by kernel_rfl) ?_
  intro w1 m1
  have c0 := m1.cell hb (by simp)
  have p0 := m1.cell p0 (by simp)
  have M1 := Lib.hid m1
  clear m1
  refine rest_got (i := 0) (v := ?v1) rfl (by kernel_rfl) (by kernel_rfl) (by kernel_rfl) (fun _ _ _ h => h) (by rfl) ?y1 ?r1
  case y1 => ((intro w9' hm9'; have hc9' := Mod.cell hm9' c0 (by first | exact List.not_mem_nil | (simp; done) | (simp; omega)); clear hm9'; go_simp; with_reducible rfl))
  try simp only [Act.put, List.setIfInBounds_toArray, List.set_cons_zero, List.set_cons_succ]
  refine rest_got (i := 1) (v := ?v2) rfl (by kernel_rfl) (by kernel_rfl) (by kernel_rfl) (fun _ _ _ h => h) (by rfl) ?y2 ?r2
  case y2 => (intro w9q hSwq; clear hSwq; go_simp; with_reducible rfl)
  try simp only [Act.put, List.setIfInBounds_toArray, List.set_cons_zero, List.set_cons_succ]
  refine rest_got (i := 2) (v := ?v3) rfl (by kernel_rfl) (by kernel_rfl) (by kernel_rfl) (fun _ _ _ h => h) (by rfl) ?y3 ?r3
  case y3 => (intro w9q hSwq; clear hSwq; go_simp; with_reducible rfl)
  try simp only [Act.put, List.setIfInBounds_toArray, List.set_cons_zero, List.set_cons_succ]
  refine rest_got (i := 3) (v := ?v4) rfl (by kernel_rfl) (by kernel_rfl) (by kernel_rfl) (fun _ _ _ h => h) (by rfl) ?y4 ?r4
  case y4 => (intro w9q hSwq; clear hSwq; go_simp; with_reducible rfl)
  try simp only [Act.put, List.setIfInBounds_toArray, List.set_cons_zero, List.set_cons_succ]
  refine rest_got (i := 4) (v := ?v5) rfl (by kernel_rfl) (by kernel_rfl) (by kernel_rfl) (fun _ _ _ h => h) (by rfl) ?y5 ?r5
  case y5 => (intro w9q hSwq; clear hSwq; go_simp; with_reducible rfl)
  try simp only [Act.put, List.setIfInBounds_toArray, List.set_cons_zero, List.set_cons_succ]
  refine rest_got (i := 5) (v := ?v6) rfl (by kernel_rfl) (by kernel_rfl) (by kernel_rfl) (fun _ _ _ h => h) (by rfl) ?y6 ?r6
  case y6 => ((intro w9' hm9'; have hc9' := Mod.cell hm9' p0 (by first | exact List.not_mem_nil | (simp; done) | (simp; omega)); clear hm9'; go_simp; with_reducible rfl))
  try simp only [Act.put, List.setIfInBounds_toArray, List.set_cons_zero, List.set_cons_succ]
  refine rest_got (i := 6) (v := ?v7) rfl (by kernel_rfl) (by kernel_rfl) (by kernel_rfl) (fun _ _ _ h => h) (by rfl) ?y7 ?r7
  case y7 => (intro w9q hSwq; clear hSwq; go_simp; with_reducible rfl)
  try simp only [Act.put, List.setIfInBounds_toArray, List.set_cons_zero, List.set_cons_succ]
  refine rest_got (i := 7) (v := ?v8) rfl (by kernel_rfl) (by kernel_rfl) (by kernel_rfl) (fun _ _ _ h => h) (by rfl) ?y8 ?r8
  case y8 => (intro w9q hSwq; clear hSwq; go_simp; with_reducible rfl)
  try simp only [Act.put, List.setIfInBounds_toArray, List.set_cons_zero, List.set_cons_succ]
  refine rest_done (by kernel_rfl) ?_ _
  go_wp2
  go_ret
  exact ⟨3, rfl, rfl, M1.out⟩

set_option maxRecDepth 100000 in
set_option maxHeartbeats 2000000 in
theorem set1_ok (g b lc : Nat) (fa : Option Addr) (fc ab sz : Nat) (bufs : List Bf) (fr : List Nat) (arr : List UInt8) (k bb : Nat) (so : Option Addr) (n c : Nat) (l : List UInt8) (w : World) (h : PoolF w g (some ⟨b, 0, none⟩) lc fa fc ab sz bufs fr arr) (hk : k < bufs.length)
    (hb : w.cell? ⟨bb, 0, none⟩ = some (.slice so n c)) (hl : l.length = n) (hs : Sees w so l) (hn : n ≤ sz) (ho : bufs[k].1 + sz ≤ arr.length) (d1 : bb ≠ ab) (d2 : bb ≠ b) :
    Calls Try.prog 20 #[.pointer (some ⟨b, k * 4, none⟩), .pointer (some ⟨bb, 0, none⟩)] w fun e w' => ∃ v, e = .returned (.int .i64 v) ∧ (v = 0 ∧
      PoolF w' g (some ⟨b, 0, none⟩) lc fa fc ab sz (bufs.set k (bufs[k].1, n, bufs[k].2.2.1, bufs[k].2.2.2)) fr (arr.take bufs[k].1 ++ l ++ arr.drop (bufs[k].1 + n))) ∧ Mod [ab, b] w w' := by
  obtain ⟨b', hbb, p0, p1, p2, p3, q1, q2, q3⟩ := OwnBf.at' h.2.1 hk
  cases hbb
  have hd : decide (sz < n) = false := by simpa using hn
  obtain ⟨hgb, hga, hba, ngf, nbf, naf⟩ := h.apart
  obtain ⟨of, hof⟩ : ∃ of, bufs[k].1 = of := ⟨_, rfl⟩
  rw [hof] at p0 ho ⊢
  have HOF := Lib.hid hof
  have H := Lib.hid h
  have HS := Lib.hid hs
  have HL := Lib.hid hl
  have HN := Lib.hid (And.intro ngf (And.intro nbf naf))
  clear hs h p1 p2 p3 q1 q2 q3 hl hof ngf nbf naf
  go_enter Try.func20, Try.ntmps20
  go_upto_region 1 with (fail)
  refine rest_start [] 8 #[false, false, false, false, false, false, false, false] rfl (by kernel_rfl) (by kernel_rfl) ?_
  intro w1 m1
  have C0 := Lib.hid (m1.cell hb (by simp))
  have P0 := Lib.hid (m1.cell p0 (by simp))
  have M1 := Lib.hid m1
  clear m1 hb p0
  refine rest_got (i := 0) (v := ?v9) rfl (by kernel_rfl) (by kernel_rfl) (by kernel_rfl) (fun _ _ _ h => h) (by rfl) ?y9 ?r9
  case y9 => ((intro w9' hm9'; have hc9' := Mod.cell hm9' C0.out (by first | exact List.not_mem_nil | (simp; done) | (simp; omega)); clear hm9'; go_simp; with_reducible rfl))
  try simp only [Act.put, List.setIfInBounds_toArray, List.set_cons_zero, List.set_cons_succ]
  refine rest_got (i := 1) (v := ?v10) rfl (by kernel_rfl) (by kernel_rfl) (by kernel_rfl) (fun _ _ _ h => h) (by rfl) ?y10 ?r10
  case y10 => (intro w9q hSwq; clear hSwq; go_simp; with_reducible rfl)
  try simp only [Act.put, List.setIfInBounds_toArray, List.set_cons_zero, List.set_cons_succ]
  refine rest_got (i := 2) (v := ?v11) rfl (by kernel_rfl) (by kernel_rfl) (by kernel_rfl) (fun _ _ _ h => h) (by rfl) ?y11 ?r11
  case y11 => (intro w9q hSwq; clear hSwq; go_simp; with_reducible rfl)
  try simp only [Act.put, List.setIfInBounds_toArray, List.set_cons_zero, List.set_cons_succ]
  refine rest_got (i := 3) (v := ?v12) rfl (by kernel_rfl) (by kernel_rfl) (by kernel_rfl) (fun _ _ _ h => h) (by rfl) ?y12 ?r12
  case y12 => (intro w9q hSwq; clear hSwq; go_simp; with_reducible rfl)
  try simp only [Act.put, List.setIfInBounds_toArray, List.set_cons_zero, List.set_cons_succ]
  refine rest_got (i := 4) (v := ?v13) rfl (by kernel_rfl) (by kernel_rfl) (by kernel_rfl) (fun _ _ _ h => h) (by rfl) ?y13 ?r13
  case y13 => (intro w9q hSwq; clear hSwq; go_simp; with_reducible rfl)
  try simp only [Act.put, List.setIfInBounds_toArray, List.set_cons_zero, List.set_cons_succ]
  refine rest_got (i := 5) (v := ?v14) rfl (by kernel_rfl) (by kernel_rfl) (by kernel_rfl) (fun _ _ _ h => h) (by rfl) ?y14 ?r14
  case y14 => ((intro w9' hm9'; have hc9' := Mod.cell hm9' P0.out (by first | exact List.not_mem_nil | (simp; done) | (simp; omega)); clear hm9'; go_simp; with_reducible rfl))
  try simp only [Act.put, List.setIfInBounds_toArray, List.set_cons_zero, List.set_cons_succ]
  refine rest_got (i := 6) (v := ?v15) rfl (by kernel_rfl) (by kernel_rfl) (by kernel_rfl) (fun _ _ _ h => h) (by rfl) ?y15 ?r15
  case y15 => (intro w9q hSwq; clear hSwq; go_simp; with_reducible rfl)
  try simp only [Act.put, List.setIfInBounds_toArray, List.set_cons_zero, List.set_cons_succ]
  refine rest_got (i := 7) (v := ?v16) rfl (by kernel_rfl) (by kernel_rfl) (by kernel_rfl) (fun _ _ _ h => h) (by rfl) ?y16 ?r16
  case y16 => (intro w9q hSwq; clear hSwq; go_simp; with_reducible rfl)
  try simp only [Act.put, List.setIfInBounds_toArray, List.set_cons_zero, List.set_cons_succ]
  refine rest_done (by kernel_rfl) ?_ _
  clear hd
  go_upto_region 3 with (fail)
  refine restu_start 6 [] [ab, b] 10 #[false, false, false, false, false, false, false, false, false, false] rfl (by kernel_rfl) (by kernel_rfl) ?_
  intro w2 m2
  have C1 := Lib.hid (m2.cell C0.out (by simp))
  have P1 := Lib.hid (m2.cell P0.out (by simp))
  have M2 := Lib.hid (M1.out.trans' m2)
  have H2 := Lib.hid (H.out.mod0 M2.out)
  have S2 := Lib.hid (HS.out.mod0 M2.out)
  clear m2 C0 P0 M1
  refine restu_got (i := 0) (v := ?v17) rfl (by kernel_rfl) (by kernel_rfl) (by kernel_rfl) (by rfl) (fun _ _ _ h => h) (by rfl) ?y17 ?r17
  case y17 => (intro w9q hSwq; clear hSwq; go_simp; with_reducible rfl)
  try simp only [Act.put, List.setIfInBounds_toArray, List.set_cons_zero, List.set_cons_succ]
  refine restu_got (i := 1) (v := ?v18) rfl (by kernel_rfl) (by kernel_rfl) (by kernel_rfl) (by rfl) (fun _ _ _ h => h) (by rfl) ?y18 ?r18
  case y18 => (intro w9q hSwq; clear hSwq; go_simp; with_reducible rfl)
  try simp only [Act.put, List.setIfInBounds_toArray, List.set_cons_zero, List.set_cons_succ]
  refine restu_got (i := 2) (v := ?v19) rfl (by kernel_rfl) (by kernel_rfl) (by kernel_rfl) (by rfl) (fun _ _ _ h => h) (by rfl) ?y19 ?r19
  case y19 => (intro w9q hSwq; clear hSwq; go_simp; with_reducible rfl)
  try simp only [Act.put, List.setIfInBounds_toArray, List.set_cons_zero, List.set_cons_succ]
  refine restu_got (i := 3) (v := ?v20) rfl (by kernel_rfl) (by kernel_rfl) (by kernel_rfl) (by rfl) (fun _ _ _ h => h) (by rfl) ?y20 ?r20
  case y20 => (intro w9q hSwq; clear hSwq; go_simp; with_reducible rfl)
  try simp only [Act.put, List.setIfInBounds_toArray, List.set_cons_zero, List.set_cons_succ]
  refine restu_early (i := 4) [6, 7, 8, 9] (v := ?v21) rfl (by kernel_rfl) (by kernel_rfl) (by kernel_rfl) (by rfl) (by kernel_rfl) (by rfl) (by kernel_rfl) (fun _ _ _ h => h) (by rfl) ?y21 ?r21
  case y21 => ((intro w9' hm9'; have hc9' := Mod.cell hm9' P1.out (by first | exact List.not_mem_nil | (simp; done) | (simp; omega)); clear hm9'; go_simp; with_reducible rfl))
  try simp only [Act.put, List.setIfInBounds_toArray, List.set_cons_zero, List.set_cons_succ]
  refine restu_early (i := 5) [6, 7, 8, 9] (v := ?v22) rfl (by kernel_rfl) (by kernel_rfl) (by kernel_rfl) (by rfl) (by kernel_rfl) (by rfl) (by kernel_rfl) (fun _ _ _ h => h) (by rfl) ?y22 ?r22
  case y22 => ((intro w9' hm9'; have hc9' := Mod.cell hm9' C1.out (by first | exact List.not_mem_nil | (simp; done) | (simp; omega)); clear hm9'; go_simp; with_reducible rfl))
  try simp only [Act.put, List.setIfInBounds_toArray, List.set_cons_zero, List.set_cons_succ]
  refine restu_one (i := 6) (by kernel_rfl) rfl (by rfl) ?_
  go_wp2_with (first | (refine wpl_copy8 (dst := some 18) _ _ ab of sz sz so n c rfl rfl l HL.out S2.out arr.length arr H2.out.2.2.2.1 hn (by omega) ?_) | fail)
  intro w3 o3 m3
  have A3 := Lib.hid o3
  have G3 := Lib.hid (m3.get H2.out.1 (by simp; exact hga))
  have B3 := Lib.hid (Own.mod H2.out.2.1 m3 (fun j hj => by simp [blk] at hj; subst hj; simp; exact hba))
  have I3 := Lib.hid (Own.mod H2.out.2.2.1 m3 (fun j hj => by simp; rintro rfl; exact HN.out.2.2 hj))
  have M3 : Hid (Mod [ab, b] w w3) := M2.out.nil.trans m3 (fun j hj _ => by simp at hj; simp [hj])
  go_wp2_with fail
  refine backm_to (K1 := [b]) (by kernel_rfl) (m3.weaken (fun j hj => by simp at hj; simp [hj])) (fun j hj _ => by simp at hj; simp [hj]) ?_
  clear o3 m3 C1 P1
  refine rest_got (i := 7) (v := ?v23) rfl (by kernel_rfl) (by kernel_rfl) (by kernel_rfl) (fun _ _ _ h => h) (by rfl) ?y23 ?r23
  case y23 => (intro w9q hSwq; clear hSwq; go_simp; with_reducible rfl)
  try simp only [Act.put, List.setIfInBounds_toArray, List.set_cons_zero, List.set_cons_succ]
  refine rest_got (i := 8) (v := ?v24) rfl (by kernel_rfl) (by kernel_rfl) (by kernel_rfl) (fun _ _ _ h => h) (by rfl) ?y24 ?r24
  case y24 => (intro w9q hSwq; clear hSwq; go_simp; with_reducible rfl)
  try simp only [Act.put, List.setIfInBounds_toArray, List.set_cons_zero, List.set_cons_succ]
  obtain ⟨b', hbb, r0, r1, r2, r3, s1, s2, s3⟩ := OwnBf.at' B3.out hk
  cases hbb
  refine rest_one (i := 9) (by kernel_rfl) rfl (by rfl) ?_
  go_wp2_with fail
  have m5 := Mod.setCell (S := [b]) w3 ⟨b, k * 4 + 1, none⟩ (.int .i64 (n : Int)) (by simp)
  refine back_to (K1 := []) m5 (by simp) ?_
  clear r0 r1 r2 r3 s1 s2 s3
  refine rest_done (by kernel_rfl) ?_ _
  go_wp2
  go_ret
  have B5 := OwnBf.set1 B3.out k hk n
  rw [HOF.out] at B5
  have hlen : (arr.take of ++ l ++ arr.drop (of + n)).length = arr.length := by
    have := HL.out
    simp only [List.length_append, List.length_take, List.length_drop]
    omega
  refine ⟨0, rfl, ⟨rfl, ?_, B5, Own.mod I3.out m5 (fun j hj => by simp; rintro rfl; exact HN.out.2.1 hj), ?_, H.out.2.2.2.2⟩, M3.out.trans m5 (fun j hj _ => by simp at hj; simp [hj])⟩
  · rw [List.length_set]
    exact m5.get G3.out (by simp; exact hgb)
  · rw [hlen]
    exact A3.out.mod m5 (fun j hj => by simp [blk] at hj; subst hj; simp; exact Ne.symm hba)

theorem Sees.part {w : World} {ab : Nat} {arr : List UInt8} (h : Sees w (some ⟨ab, 0, none⟩) arr) (of n : Nat) : Sees w (some ⟨ab, of, none⟩) ((arr.drop of).take n) := by
  intro j hj
  have hj' : of + j < arr.length := by simp at hj; omega
  obtain ⟨b, off, e1, e2⟩ := h (of + j) hj'
  cases e1
  refine ⟨ab, of, rfl, ?_⟩
  rw [Nat.zero_add] at e2
  rw [e2]
  simp

set_option maxRecDepth 100000 in
set_option maxHeartbeats 2000000 in
theorem bytes1_any (g b lc : Nat) (fa : Option Addr) (fc ab sz : Nat) (bufs : List Bf) (fr : List Nat) (arr : List UInt8) (k bo of us : Nat) (w : World) (h : PoolF w g (some ⟨b, 0, none⟩) lc fa fc ab sz bufs fr arr) (hk : k < bufs.length) (hsz : sz ≤ 1000000)
    (hb : w.heap[bo]? = some (.cells #[.slice none 0 0] 32 (0, 0))) (hof : bufs[k].1 = of) (hus : bufs[k].2.1 = us) (hn : us ≤ sz) (ho : of + sz ≤ arr.length) (d : bo ≠ b) :
    Calls Try.prog 18 #[.pointer (some ⟨b, k * 4, none⟩), .pointer (some ⟨bo, 0, none⟩)] w fun e w' => ∃ v, e = .returned (.int .i64 v) ∧ (v = 0 ∧
      ∃ ao c, w'.heap[bo]? = some (.cells #[.slice ao us c] 32 (0, 0)) ∧ OwnB w' ao c ((arr.drop of).take us) ∧ ∀ j, j ∈ blk ao → w.heap.size ≤ j) ∧ Mod [bo] w w' := by
  obtain ⟨b', hbb, p0, p1, p2, p3, q1, q2, q3⟩ := OwnBf.at' h.2.1 hk
  cases hbb
  rw [hof] at p0
  rw [hus] at p1
  have HS := Lib.hid (h.2.2.2.1.sees.part of us)
  have HL : Hid (((arr.drop of).take us).length = us) := by show _ = _; simp; omega
  have HB := Lib.hid hb
  clear h p2 p3 q1 q2 q3 hof hus hb
  have hlo := lt_of_block HB.out
  have hui : (us : Int) ≤ (sz : Int) := by omega
  go_enter Try.func18, Try.ntmps18
  go_upto_region 1 with (fail)
  refine restu_start 10 [] [bo] 12 #[false, false, false, false, false, false, false, false, false, false, false, false] rfl (by kernel_rfl) (by kernel_rfl) ?_
  intro w1 m1
  have C0 := Lib.hid (cell_of_block (i := 0) (m1.get HB.out (by simp)))
  have P0 := Lib.hid (m1.cell p0 (by simp))
  have P1 := Lib.hid (m1.cell p1 (by simp))
  have S1 := Lib.hid (HS.out.mod0 m1)
  have G1 := Lib.hid (m1.get HB.out (by simp))
  have M1 := Lib.hid m1
  clear m1 p0 p1
  refine restu_early (i := 0) [10, 11] (v := ?v25) rfl (by kernel_rfl) (by kernel_rfl) (by kernel_rfl) (by rfl) (by kernel_rfl) (by rfl) (by kernel_rfl) (fun _ _ _ h => h) (by rfl) ?y25 ?r25
  case y25 => ((intro w9' hm9'; have hc9' := Mod.cell hm9' C0.out (by first | exact List.not_mem_nil | (simp; done) | (simp; omega)); clear hm9'; go_simp; with_reducible rfl))
  try simp only [Act.put, List.setIfInBounds_toArray, List.set_cons_zero, List.set_cons_succ]
  refine restu_got (i := 1) (v := ?v26) rfl (by kernel_rfl) (by kernel_rfl) (by kernel_rfl) (by rfl) (fun _ _ _ h => h) (by rfl) ?y26 ?r26
  case y26 => (intro w9q hSwq; clear hSwq; go_simp; with_reducible rfl)
  try simp only [Act.put, List.setIfInBounds_toArray, List.set_cons_zero, List.set_cons_succ]
  refine restu_got (i := 2) (v := ?v27) rfl (by kernel_rfl) (by kernel_rfl) (by kernel_rfl) (by rfl) (fun _ _ _ h => h) (by rfl) ?y27 ?r27
  case y27 => (intro w9q hSwq; clear hSwq; go_simp; with_reducible rfl)
  try simp only [Act.put, List.setIfInBounds_toArray, List.set_cons_zero, List.set_cons_succ]
  refine restu_got (i := 3) (v := ?v28) rfl (by kernel_rfl) (by kernel_rfl) (by kernel_rfl) (by rfl) (fun _ _ _ h => h) (by rfl) ?y28 ?r28
  case y28 => (intro w9q hSwq; clear hSwq; go_simp; with_reducible rfl)
  try simp only [Act.put, List.setIfInBounds_toArray, List.set_cons_zero, List.set_cons_succ]
  refine restu_early (i := 4) [9, 10, 11] (v := ?v29) rfl (by kernel_rfl) (by kernel_rfl) (by kernel_rfl) (by rfl) (by kernel_rfl) (by rfl) (by kernel_rfl) (fun _ _ _ h => h) (by rfl) ?y29 ?r29
  case y29 => ((intro w9' hm9'; have hc9' := Mod.cell hm9' P0.out (by first | exact List.not_mem_nil | (simp; done) | (simp; omega)); clear hm9'; go_simp; with_reducible rfl))
  try simp only [Act.put, List.setIfInBounds_toArray, List.set_cons_zero, List.set_cons_succ]
  refine restu_got (i := 5) (v := ?v30) rfl (by kernel_rfl) (by kernel_rfl) (by kernel_rfl) (by rfl) (fun _ _ _ h => h) (by rfl) ?y30 ?r30
  case y30 => (intro w9q hSwq; clear hSwq; go_simp; with_reducible rfl)
  try simp only [Act.put, List.setIfInBounds_toArray, List.set_cons_zero, List.set_cons_succ]
  refine restu_got (i := 6) (v := ?v31) rfl (by kernel_rfl) (by kernel_rfl) (by kernel_rfl) (by rfl) (fun _ _ _ h => h) (by rfl) ?y31 ?r31
  case y31 => (intro w9q hSwq; clear hSwq; go_simp; with_reducible rfl)
  try simp only [Act.put, List.setIfInBounds_toArray, List.set_cons_zero, List.set_cons_succ]
  refine restu_got (i := 7) (v := ?v32) rfl (by kernel_rfl) (by kernel_rfl) (by kernel_rfl) (by rfl) (fun _ _ _ h => h) (by rfl) ?y32 ?r32
  case y32 => (intro w9q hSwq; clear hSwq; go_simp; with_reducible rfl)
  try simp only [Act.put, List.setIfInBounds_toArray, List.set_cons_zero, List.set_cons_succ]
  refine restu_early (i := 8) [9, 10, 11] (v := ?v33) rfl (by kernel_rfl) (by kernel_rfl) (by kernel_rfl) (by rfl) (by kernel_rfl) (by rfl) (by kernel_rfl) (fun _ _ _ h => h) (by rfl) ?y33 ?r33
  case y33 => ((intro w9' hm9'; have hc9' := Mod.cell hm9' P1.out (by first | exact List.not_mem_nil | (simp; done) | (simp; omega)); clear hm9'; go_simp; with_reducible rfl))
  try simp only [Act.put, List.setIfInBounds_toArray, List.set_cons_zero, List.set_cons_succ]
  refine restu_got (i := 9) (v := ?v34) rfl (by kernel_rfl) (by kernel_rfl) (by kernel_rfl) (by rfl) (fun _ _ _ h => h) (by rfl) ?y34 ?r34
  case y34 => (intro w9q hSwq; clear hSwq; go_simp; with_reducible rfl)
  try simp only [Act.put, List.setIfInBounds_toArray, List.set_cons_zero, List.set_cons_succ]
  refine restu_one (i := 10) (by kernel_rfl) rfl (by rfl) ?_
  go_wp2_with (first | (at_builtin; refine wpl_app8 (dst := some 14) _ _ none 0 0 [] rfl rfl (OwnB.nil _) (some ⟨ab, of, none⟩) us sz ((arr.drop of).take us) rfl HL.out S1.out (by omega) ?_) | fail)
  intro a2 c2 w2 o2 m2 s2
  have O2 := Lib.hid o2
  have G2 := Lib.hid (m2.get G1.out (by simp [blk]))
  have M2 : Hid (Mod [] w w2) := M1.out.trans' m2
  have F2 : Hid (∀ j, j ∈ blk a2 → w.heap.size ≤ j) := fun j hj => by
    rcases s2.blk j hj with h | h
    · simp [blk] at h
    · exact Nat.le_trans M1.out.size h
  go_wp2_with fail
  refine backm_to (K1 := [bo]) (by kernel_rfl) (m2.weaken (fun j hj => by simp [blk] at hj)) (fun j hj _ => hj) ?_
  clear o2 m2 s2 C0 P0 P1
  
  have g2 := cell_of_block (i := 0) G2.out
  have f2 := free_of_block (i := 0) G2.out
  refine rest_one (i := 11) (by kernel_rfl) rfl (by rfl) ?_
  go_wp2_with fail
  have m5 := Mod.setCell (S := [bo]) w2 ⟨bo, 0, none⟩ (.slice a2 us c2) (by simp)
  have G5 := heap_setCell_same (i := 0) G2.out (.slice a2 us c2)
  trace_state
  refine back_to (K1 := []) (by simpa using m5) (by simp) ?_
  clear g2 f2
  refine rest_done (by kernel_rfl) ?_ _
  go_wp2
  go_ret
  refine ⟨0, rfl, ⟨rfl, a2, c2, ?_, ?_, F2.out⟩, ?_⟩
  · simpa using G5
  · refine Own.mod O2.out (by simpa using m5) (fun j hj => ?_)
    have := F2.out j hj
    simp; omega
  · exact M2.out.nil.trans (by simpa using m5) (fun j hj _ => hj)
end Go.Proofs.Ytfpmdacpmcdleaa
