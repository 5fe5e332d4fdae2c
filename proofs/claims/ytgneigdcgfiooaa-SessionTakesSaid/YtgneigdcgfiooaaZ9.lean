/- Texts put together (9 of 9): SessTakes. -/
import Derived.Test.YtgneigdcgfiooaaZ8
import Derived.Test.YtgneigdcgfiooaaZ1
import Derived.Handy
/- The walk of the law SessionTakes. -/
namespace Go.Proofs.Ytgneigdcgfiooaa
open Go Go.RowKit Go.Lib

set_option maxRecDepth 100000 in
set_option maxHeartbeats 4000000 in
theorem sessionTakes_any (ao : Option Addr) (len cap : Nat) (l : List UInt8) (w : World) (hl : l.length = len) (hc : len ≤ cap) (hm : cap ≤ 9223372036854775807) (hs : Sees w ao l) :
    Calls Try.prog 4 #[.slice ao len cap] w fun e w' => e = .returned (.bool true) ∧ Mod [] w w' := by
  subst hl
  have HS := Lib.hid hs
  have HNR := Lib.hid (newReader_any ao l.length cap l 100 w rfl hc hm hs)
  have HBO : Hid (∀ k, k ∈ blkOf ao l → k < w.heap.size) := Lib.hid hs.ltOf
  clear hs
  go_enter Try.func4, Try.ntmps4
  by_cases h3 : 3000 < l.length
  · have D3 : decide ((3000 : Int) < (l.length : Int)) = true := decide_eq_true (by omega)
    go_wp2_with fail
    refine (wakes10_any w).mono ?_
    rintro e w2 ⟨rfl, m2⟩
    have HM2 := Lib.hid m2
    clear m2
    go_wp2_with fail
    go_ret
    exact ⟨rfl, HM2.out⟩
  · have D3 : decide ((3000 : Int) < (l.length : Int)) = false := decide_eq_false (by omega)
    go_wp2_with fail
    refine HNR.out.mono ?_
    rintro e w1 ⟨gr, rfl, hr, m1, hgr⟩
    have HM1 := Lib.hid m1
    have HT := Lib.hid (ttake_any gr (blkOf ao l) l w1 hr (fun k hk => Nat.lt_of_lt_of_le (HBO.out k hk) m1.size) (by omega))
    unfold TakeTR at HT
    clear hr m1 HNR
    go_wp2_with fail
    refine HT.out.mono ?_
    rintro e w2 ⟨m2, ⟨x, rfl, hx, -⟩ | ⟨gt, b, n, f, F, rest, rfl, hT, hF, hG, hlF, hR, hb⟩⟩
    · have HM2 := Lib.hid (HM1.out.fresh1 m2 hgr)
      have D0 : (x != 0) = true := by rcases hx with rfl | rfl <;> rfl
      have D10 : (x == 10) = true ∨ ((x == 10) = false ∧ (x == 11) = true) := by rcases hx with rfl | rfl <;> simp
      clear m2 HT
      rcases hx with rfl | rfl
      · go_wp2_with fail
        refine (wakes10_any w2).mono ?_
        rintro e w3 ⟨rfl, m3⟩
        have HM3 := Lib.hid (HM2.out.trans' m3)
        clear m3
        go_wp2
        go_ret
        exact ⟨rfl, HM3.out⟩
      · go_wp2_with fail
        refine (wakes10_any w2).mono ?_
        rintro e w3 ⟨rfl, m3⟩
        have HM3 := Lib.hid (HM2.out.trans' m3)
        clear m3
        go_wp2
        go_ret
        exact ⟨rfl, HM3.out⟩
    · have HM2 := Lib.hid (HM1.out.fresh1 m2 hgr)
      have HTT := Lib.hid hT
      have HRR := Lib.hid hR
      have HTE := Lib.hid hF
      have HLF := Lib.hid hlF
      have hgw2 : gr < w2.heap.size := hR.lt
      have HFL : Hid (F.length ≤ 100000) := Lib.hid (by
        have e1 := flat_ge F
        have e2 := congrArg List.length hlF
        unfold tabB at e2
        rw [List.length_append, List.length_append] at e2
        omega)
      have HDN := Lib.hid (fun v (m : Mod [] w2 v) => rdone_any gr _ 0 rest 100 v (hR.mod0 m))
      have hgab : ∀ k, k ∈ blkOf ao l → k ≠ gr := fun k hk e => by have := HBO.out k hk; omega
      have HAB := Lib.hid hgab
      clear m2 hT hF hG hlF hR HT hgab
      go_upto_region 7 with (fail)
      refine rest_start [gr] 15 #[false, false, false, false, false, false, false, false, false, false, false, false, false, false, false] rfl (by kernel_rfl) (by kernel_rfl) ?_
      intro w4 m4
      have HDN4 := Lib.hid (HDN.out w4 m4)
      have M4 := Lib.hid m4
      clear m4
      refine rest_got (i := 0) (v := ?v1) rfl (by kernel_rfl) (by kernel_rfl) (by kernel_rfl) (fun _ _ _ h => h) (by rfl) ?y1 ?r1
      case y1 => (intro w9q hSwq; clear hSwq; go_simp; with_reducible rfl)
      try simp only [Act.put, List.setIfInBounds_toArray, List.set_cons_zero, List.set_cons_succ]
      refine rest_one (i := 1) (by kernel_rfl) rfl (by rfl) ?_
      go_wp2_with fail
      refine HDN4.out.mono ?_
      rintro e w5 ⟨rfl, -, m5⟩
      have HM5 := Lib.hid ((HM2.out.trans' M4.out).fresh1 m5 hgr)
      have HT5 := Lib.hid ((HTT.out.mod0 M4.out).modR8 (HRR.out.mod0 M4.out) m5)
      have HS5 := Lib.hid (HS.out.mod0 HM5.out)
      by_cases hr0 : rest = []
      · subst hr0
        have hdn : doneR 0 ([] : List UInt8) = 0 := rfl
        have hlF : l = tabB F := by have := HLF.out; simpa using this
        have HLL := Lib.hid hlF
        have HPU := Lib.hid (tput_any gt b n f F w5 HT5.out HTE.out HFL.out)
        rw [← hlF] at HPU
        clear hlF
        unfold PutTR at HPU
        rw [hdn]
        go_wp2_with fail
        refine back_to (K1 := []) m5 (by simp) ?_
        clear m5 HDN4 M4 HT5
        refine rest_got (i := 2) (v := ?v2) rfl (by kernel_rfl) (by kernel_rfl) (by kernel_rfl) (fun _ _ _ h => h) (by rfl) ?y2 ?r2
        case y2 => (intro w9q hSwq; clear hSwq; go_simp; with_reducible rfl)
        try simp only [Act.put, List.setIfInBounds_toArray, List.set_cons_zero, List.set_cons_succ]
        refine rest_got (i := 3) (v := ?v3) rfl (by kernel_rfl) (by kernel_rfl) (by kernel_rfl) (fun _ _ _ h => h) (by rfl) ?y3 ?r3
        case y3 => (intro w9q hSwq; clear hSwq; go_simp; with_reducible rfl)
        try simp only [Act.put, List.setIfInBounds_toArray, List.set_cons_zero, List.set_cons_succ]
        refine rest_got (i := 4) (v := ?v4) rfl (by kernel_rfl) (by kernel_rfl) (by kernel_rfl) (fun _ _ _ h => h) (by rfl) ?y4 ?r4
        case y4 => (intro w9q hSwq; clear hSwq; go_simp; with_reducible rfl)
        try simp only [Act.put, List.setIfInBounds_toArray, List.set_cons_zero, List.set_cons_succ]
        refine rest_got (i := 7) (v := ?v5) rfl (by kernel_rfl) (by kernel_rfl) (by kernel_rfl) (fun _ _ _ h => h) (by rfl) ?y5 ?r5
        case y5 => (intro w9q hSwq; clear hSwq; go_simp; with_reducible rfl)
        try simp only [Act.put, List.setIfInBounds_toArray, List.set_cons_zero, List.set_cons_succ]
        refine rest_got (i := 8) (v := ?v6) rfl (by kernel_rfl) (by kernel_rfl) (by kernel_rfl) (fun _ _ _ h => h) (by rfl) ?y6 ?r6
        case y6 => ((intro w9' hm9'; refine Eq.trans (reads_str _ _ _ _ 5 Try.underlying36 Try.underlying5 Try.underlying9 _ _ _ _ rfl (by first | rfl | simp) HS5.out (by first | (intro k _ hk; exact (List.not_mem_nil hk)) | simp) w9' hm9') ?_; with_reducible rfl))
        try simp only [Act.put, List.setIfInBounds_toArray, List.set_cons_zero, List.set_cons_succ]
        refine rest_one (i := 5) (by kernel_rfl) rfl (by rfl) ?_
        go_wp2_with fail
        refine HPU.out.mono ?_
        rintro e w6 ⟨a6, n6, c6, rfl, hl6, ho6, hb6, m6⟩
        have HM6 := Lib.hid (HM5.out.trans' m6)
        have HS6 : Hid (Sees w6 a6 l) := Lib.hid (Own.sees ho6)
        subst hl6
        go_wp2_with fail
        refine back_to (K1 := []) m6 (by simp) ?_
        clear m6 ho6 hb6 HPU
        refine rest_got (i := 6) (v := ?v7) rfl (by kernel_rfl) (by kernel_rfl) (by kernel_rfl) (fun _ _ _ h => h) (by rfl) ?y7 ?r7
        case y7 => ((intro w9' hm9'; refine Eq.trans (reads_str _ _ _ _ 5 Try.underlying36 Try.underlying5 Try.underlying9 _ _ _ _ rfl (by first | rfl | simp) HS6.out (by first | (intro k _ hk; exact (List.not_mem_nil hk)) | simp) w9' hm9') ?_; with_reducible rfl))
        try simp only [Act.put, List.setIfInBounds_toArray, List.set_cons_zero, List.set_cons_succ]
        refine rest_got (i := 9) (v := ?v8) rfl (by kernel_rfl) (by kernel_rfl) (by kernel_rfl) (fun _ _ _ h => h) (by rfl) ?y8 ?r8
        case y8 => ((intro w9' hm9'; refine Eq.trans (reads_eqs w9' _ _ _ _ _ rfl rfl) ?_; refine Eq.trans (congrArg (fun b => Result.ok (Next.value (Value.bool b)) w9') (decide_eq_true rfl)) ?_; with_reducible rfl))
        try simp only [Act.put, List.setIfInBounds_toArray, List.set_cons_zero, List.set_cons_succ]
        refine rest_got (i := 10) (v := ?v9) rfl (by kernel_rfl) (by kernel_rfl) (by kernel_rfl) (fun _ _ _ h => h) (by rfl) ?y9 ?r9
        case y9 => (intro w9q hSwq; clear hSwq; go_simp; with_reducible rfl)
        try simp only [Act.put, List.setIfInBounds_toArray, List.set_cons_zero, List.set_cons_succ]
        refine rest_got (i := 11) (v := ?v10) rfl (by kernel_rfl) (by kernel_rfl) (by kernel_rfl) (fun _ _ _ h => h) (by rfl) ?y10 ?r10
        case y10 => (intro w9q hSwq; clear hSwq; go_simp; with_reducible rfl)
        try simp only [Act.put, List.setIfInBounds_toArray, List.set_cons_zero, List.set_cons_succ]
        refine rest_one (i := 12) (by kernel_rfl) rfl (by rfl) ?_
        go_wp2_with fail
        refine (wakes10_any w6).mono ?_
        rintro e w7 ⟨rfl, m7⟩
        have HM7 := Lib.hid (HM6.out.trans' m7)
        go_wp2_with fail
        refine back_to (K1 := []) m7 (by simp) ?_
        clear m7
        refine rest_got (i := 13) (v := ?v11) rfl (by kernel_rfl) (by kernel_rfl) (by kernel_rfl) (fun _ _ _ h => h) (by rfl) ?y11 ?r11
        case y11 => (intro w9q hSwq; clear hSwq; go_simp; with_reducible rfl)
        try simp only [Act.put, List.setIfInBounds_toArray, List.set_cons_zero, List.set_cons_succ]
        refine rest_got (i := 14) (v := ?v12) rfl (by kernel_rfl) (by kernel_rfl) (by kernel_rfl) (fun _ _ _ h => h) (by rfl) ?y12 ?r12
        case y12 => (intro w9q hSwq; clear hSwq; go_simp; with_reducible rfl)
        try simp only [Act.put, List.setIfInBounds_toArray, List.set_cons_zero, List.set_cons_succ]
        refine rest_done (by kernel_rfl) ?_ _
        go_wp2
        go_ret
        exact ⟨rfl, HM7.out⟩
      · have hdn : doneR 0 rest = 11 := by simp [doneR, hr0]
        rw [hdn]
        go_wp2_with fail
        refine back_to (K1 := []) m5 (by simp) ?_
        clear m5 HDN4 M4
        refine rest_got (i := 2) (v := ?v13) rfl (by kernel_rfl) (by kernel_rfl) (by kernel_rfl) (fun _ _ _ h => h) (by rfl) ?y13 ?r13
        case y13 => (intro w9q hSwq; clear hSwq; go_simp; with_reducible rfl)
        try simp only [Act.put, List.setIfInBounds_toArray, List.set_cons_zero, List.set_cons_succ]
        refine rest_got (i := 3) (v := ?v14) rfl (by kernel_rfl) (by kernel_rfl) (by kernel_rfl) (fun _ _ _ h => h) (by rfl) ?y14 ?r14
        case y14 => (intro w9q hSwq; clear hSwq; go_simp; with_reducible rfl)
        try simp only [Act.put, List.setIfInBounds_toArray, List.set_cons_zero, List.set_cons_succ]
        refine rest_skip (i := 4) rfl (by kernel_rfl) (by kernel_rfl) (by kernel_rfl) (fun _ _ _ h => h) (by rfl) ?_
        try simp only [Act.put, List.setIfInBounds_toArray, List.set_cons_zero, List.set_cons_succ]
        refine rest_skip (i := 5) rfl (by kernel_rfl) (by kernel_rfl) (by kernel_rfl) (fun _ _ _ h => h) (by rfl) ?_
        try simp only [Act.put, List.setIfInBounds_toArray, List.set_cons_zero, List.set_cons_succ]
        refine rest_skip (i := 6) rfl (by kernel_rfl) (by kernel_rfl) (by kernel_rfl) (fun _ _ _ h => h) (by rfl) ?_
        try simp only [Act.put, List.setIfInBounds_toArray, List.set_cons_zero, List.set_cons_succ]
        refine rest_skip (i := 7) rfl (by kernel_rfl) (by kernel_rfl) (by kernel_rfl) (fun _ _ _ h => h) (by rfl) ?_
        try simp only [Act.put, List.setIfInBounds_toArray, List.set_cons_zero, List.set_cons_succ]
        refine rest_skip (i := 8) rfl (by kernel_rfl) (by kernel_rfl) (by kernel_rfl) (fun _ _ _ h => h) (by rfl) ?_
        try simp only [Act.put, List.setIfInBounds_toArray, List.set_cons_zero, List.set_cons_succ]
        refine rest_skip (i := 9) rfl (by kernel_rfl) (by kernel_rfl) (by kernel_rfl) (fun _ _ _ h => h) (by rfl) ?_
        try simp only [Act.put, List.setIfInBounds_toArray, List.set_cons_zero, List.set_cons_succ]
        refine rest_got (i := 10) (v := ?v15) rfl (by kernel_rfl) (by kernel_rfl) (by kernel_rfl) (fun _ _ _ h => h) (by rfl) ?y15 ?r15
        case y15 => (intro w9q hSwq; clear hSwq; go_simp; with_reducible rfl)
        try simp only [Act.put, List.setIfInBounds_toArray, List.set_cons_zero, List.set_cons_succ]
        refine rest_got (i := 11) (v := ?v16) rfl (by kernel_rfl) (by kernel_rfl) (by kernel_rfl) (fun _ _ _ h => h) (by rfl) ?y16 ?r16
        case y16 => (intro w9q hSwq; clear hSwq; go_simp; with_reducible rfl)
        try simp only [Act.put, List.setIfInBounds_toArray, List.set_cons_zero, List.set_cons_succ]
        refine rest_one (i := 12) (by kernel_rfl) rfl (by rfl) ?_
        go_wp2_with fail
        refine (wakes10_any w5).mono ?_
        rintro e w6 ⟨rfl, m6⟩
        have HM6 := Lib.hid (HM5.out.trans' m6)
        go_wp2_with fail
        refine back_to (K1 := []) m6 (by simp) ?_
        clear m6
        refine rest_got (i := 13) (v := ?v17) rfl (by kernel_rfl) (by kernel_rfl) (by kernel_rfl) (fun _ _ _ h => h) (by rfl) ?y17 ?r17
        case y17 => (intro w9q hSwq; clear hSwq; go_simp; with_reducible rfl)
        try simp only [Act.put, List.setIfInBounds_toArray, List.set_cons_zero, List.set_cons_succ]
        refine rest_got (i := 14) (v := ?v18) rfl (by kernel_rfl) (by kernel_rfl) (by kernel_rfl) (fun _ _ _ h => h) (by rfl) ?y18 ?r18
        case y18 => (intro w9q hSwq; clear hSwq; go_simp; with_reducible rfl)
        try simp only [Act.put, List.setIfInBounds_toArray, List.set_cons_zero, List.set_cons_succ]
        refine rest_done (by kernel_rfl) ?_ _
        go_wp2
        go_ret
        exact ⟨rfl, HM6.out⟩
end Go.Proofs.Ytgneigdcgfiooaa
