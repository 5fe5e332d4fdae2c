/- The walk that compares two rows of commands. -/
import Derived.Test.YtaagfoeedngdjaaDoorCmd12
namespace Go.Proofs.YtaagfoeedngdjaaDoor
open Go Go.RowKit Go.Lib

instance : DecidableEq Cd := fun c d => decidable_of_iff (SameC c d) (same_iff c d)
set_option maxRecDepth 100000 in
set_option maxHeartbeats 4000000 in
theorem all_any (ao : Option Addr) (n1 c1 : Nat) (l1 : List Cm) (bo : Option Addr) (n2 c2 : Nat) (l2 : List Cm) (w : World) (e1 : l1.length = n1) (e2 : l2.length = n2) (b1 : n1 ≤ 9223372036854775807) (b2 : n2 ≤ 9223372036854775807)
    (h1 : SeesC w ao l1) (h2 : SeesC w bo l2) :
    Calls Tryd.prog 10 #[.slice ao n1 c1, .slice bo n2 c2] w fun e w' => e = .returned (.bool (decide (l1.map Prod.fst = l2.map Prod.fst))) ∧ Mod [] w w' := by
  subst e1
  have H1 := Lib.hid h1
  have H2 := Lib.hid h2
  have HL := Lib.hid e2
  clear h1 h2
  by_cases hne : l1.length = n2
  case neg =>
    have hno : ¬ l1.map Prod.fst = l2.map Prod.fst := fun h => hne (by have := congrArg List.length h; rw [List.length_map, List.length_map] at this; omega)
    rw [decide_eq_false hno]
    have D : ((l1.length : Int) != (n2 : Int)) = true := by simp; omega
    clear hno e2
    go_enter Tryd.func10, Tryd.ntmps10
    go_wp2
    go_ret
    exact ⟨rfl, Mod.refl _ _⟩
  clear e2
  subst hne
  obtain ⟨mb, hmb⟩ : ∃ b, decide (l1.map Prod.fst = l2.map Prod.fst) = b := ⟨_, rfl⟩
  rw [hmb]
  have HV := Lib.hid hmb
  clear hmb
  go_enter Tryd.func10, Tryd.ntmps10
  go_wp2
  go_loopw [5] (fun i wr => ∃ k : Nat, k ≤ l1.length ∧ i = .int .i64 (k : Int) ∧ (l1.take k).map Prod.fst = (l2.take k).map Prod.fst ∧ Mod [] w wr) (fun i _ => l1.length - (intOf i).toNat)
  case atStart => exact ⟨0, Nat.zero_le _, rfl, rfl, Mod.refl _ _⟩
  case round =>
    obtain ⟨k, hk, rfl, hall, hm⟩ := hrel
    have HA := Lib.hid hall
    have HM := Lib.hid hm
    clear hall hm
    by_cases hlt : k < l1.length
    · have hlt2 : k < l2.length := by rw [HL.out]; exact hlt
      have T1 := Lib.hid (take_snoc l1 k hlt)
      have T2 := Lib.hid (take_snoc l2 k hlt2)
      have G1 : Hid ((l1.map Prod.fst)[k]? = some l1[k].1) := Lib.hid (by rw [List.getElem?_map, List.getElem?_eq_getElem hlt]; rfl)
      have G2 : Hid ((l2.map Prod.fst)[k]? = some l2[k].1) := Lib.hid (by rw [List.getElem?_map, List.getElem?_eq_getElem hlt2]; rfl)
      obtain ⟨b, off, rfl, p0, p1, p2, p3, p4, p5, p6, pt, pf⟩ := (H1.out.mod0 HM.out) k hlt
      obtain ⟨b', off', rfl, q0, q1, q2, q3, q4, q5, q6, qt, qf⟩ := (H2.out.mod0 HM.out) k hlt2
      obtain ⟨⟨⟨client, seq, kind, keys, old, fresh, n⟩, kao, kcap⟩, hx⟩ : ∃ x, l1[k] = x := ⟨_, rfl⟩
      obtain ⟨⟨⟨client', seq', kind', keys', old', fresh', n'⟩, kao', kcap'⟩, hy⟩ : ∃ x, l2[k] = x := ⟨_, rfl⟩
      rw [hx] at p0 p1 p2 p3 p4 p5 p6 pt pf T1 G1
      rw [hy] at q0 q1 q2 q3 q4 q5 q6 qt qf T2 G2
      dsimp only at p0 p1 p2 p3 p4 p5 p6 pt pf q0 q1 q2 q3 q4 q5 q6 qt qf G1 G2
      clear hx hy hlt2
      have L1 : Hid (∀ w', Mod [] wr w' → w'.cell? ⟨b, off + k * 7, none⟩ = some (.int .u32 (client : Int)) ∧ w'.cell? ⟨b, off + k * 7 + 1, none⟩ = some (.int .u32 (seq : Int)) ∧ w'.cell? ⟨b, off + k * 7 + 2, none⟩ = some (.int .u8 (kind : Int)) ∧ w'.cell? ⟨b, off + k * 7 + 3, none⟩ = some (.slice kao keys.length kcap) ∧ w'.cell? ⟨b, off + k * 7 + 4, none⟩ = some (.string old) ∧ w'.cell? ⟨b, off + k * 7 + 5, none⟩ = some (.string fresh) ∧ w'.cell? ⟨b, off + k * 7 + 6, none⟩ = some (.int .i64 n)) :=
        Lib.hid (fun w' m => ⟨m.cell p0 List.not_mem_nil, m.cell p1 List.not_mem_nil, m.cell p2 List.not_mem_nil, m.cell p3 List.not_mem_nil, m.cell p4 List.not_mem_nil, m.cell p5 List.not_mem_nil, m.cell p6 List.not_mem_nil⟩)
      have L2 : Hid (∀ w', Mod [] wr w' → w'.cell? ⟨b', off' + k * 7, none⟩ = some (.int .u32 (client' : Int)) ∧ w'.cell? ⟨b', off' + k * 7 + 1, none⟩ = some (.int .u32 (seq' : Int)) ∧ w'.cell? ⟨b', off' + k * 7 + 2, none⟩ = some (.int .u8 (kind' : Int)) ∧ w'.cell? ⟨b', off' + k * 7 + 3, none⟩ = some (.slice kao' keys'.length kcap') ∧ w'.cell? ⟨b', off' + k * 7 + 4, none⟩ = some (.string old') ∧ w'.cell? ⟨b', off' + k * 7 + 5, none⟩ = some (.string fresh') ∧ w'.cell? ⟨b', off' + k * 7 + 6, none⟩ = some (.int .i64 n')) :=
        Lib.hid (fun w' m => ⟨m.cell q0 List.not_mem_nil, m.cell q1 List.not_mem_nil, m.cell q2 List.not_mem_nil, m.cell q3 List.not_mem_nil, m.cell q4 List.not_mem_nil, m.cell q5 List.not_mem_nil, m.cell q6 List.not_mem_nil⟩)
      have PT := Lib.hid pt
      have QT := Lib.hid qt
      have PF := Lib.hid pf
      have QF := Lib.hid qf
      clear p0 p1 p2 p3 p4 p5 p6 pt pf q0 q1 q2 q3 q4 q5 q6 qt qf
      go_upto_region 6 with (fail)
      refine rest_start [] 10 #[false, false, false, false, false, false, false, false, false, false] rfl (by kernel_rfl) (by kernel_rfl) ?_
      intro w6 m6
      have L1' := fun w' (m : Mod [] w6 w') => L1.out w' (m6.trans' m)
      have L2' := fun w' (m : Mod [] w6 w') => L2.out w' (m6.trans' m)
      have HS := Lib.hid (sameRef_any (⟨client, seq, kind, keys, old, fresh, n⟩, kao, kcap) (⟨client', seq', kind', keys', old', fresh', n'⟩, kao', kcap') w6 PF.out QF.out (PT.out.mod0 m6) (QT.out.mod0 m6))
      have HM6 := Lib.hid (HM.out.trans' m6)
      have LL1 := Lib.hid L1'
      have LL2 := Lib.hid L2'
      clear m6 L1' L2' L1 L2
      refine rest_got (i := 0) (v := ?v1) rfl (by kernel_rfl) (by kernel_rfl) (by kernel_rfl) (fun _ _ _ h => h) (by rfl) ?y1 ?r1
      case y1 => (intro w9q hSwq; clear hSwq; go_simp; with_reducible rfl)
      try simp only [Act.put, List.setIfInBounds_toArray, List.set_cons_zero, List.set_cons_succ]
      refine rest_got (i := 1) (v := ?v2) rfl (by kernel_rfl) (by kernel_rfl) (by kernel_rfl) (fun _ _ _ h => h) (by rfl) ?y2 ?r2
      case y2 => (intro w9q hSwq; clear hSwq; go_simp; with_reducible rfl)
      try simp only [Act.put, List.setIfInBounds_toArray, List.set_cons_zero, List.set_cons_succ]
      refine rest_got (i := 2) (v := ?v3) rfl (by kernel_rfl) (by kernel_rfl) (by kernel_rfl) (fun _ _ _ h => h) (by rfl) ?y3 ?r3
      case y3 => (intro w9q hSwq; clear hSwq; go_simp; with_reducible rfl)
      try simp only [Act.put, List.setIfInBounds_toArray, List.set_cons_zero, List.set_cons_succ]
      refine rest_got (i := 3) (v := ?v4) rfl (by kernel_rfl) (by kernel_rfl) (by kernel_rfl) (fun _ _ _ h => h) (by rfl) ?y4 ?r4
      case y4 => ((intro w9' hm9'; obtain ⟨hc0', hc1', hc2', hc3', hc4', hc5', hc6'⟩ := LL1.out w9' hm9'; clear hm9'; go_simp; with_reducible rfl))
      try simp only [Act.put, List.setIfInBounds_toArray, List.set_cons_zero, List.set_cons_succ]
      refine rest_got (i := 4) (v := ?v5) rfl (by kernel_rfl) (by kernel_rfl) (by kernel_rfl) (fun _ _ _ h => h) (by rfl) ?y5 ?r5
      case y5 => (intro w9q hSwq; clear hSwq; go_simp; with_reducible rfl)
      try simp only [Act.put, List.setIfInBounds_toArray, List.set_cons_zero, List.set_cons_succ]
      refine rest_got (i := 5) (v := ?v6) rfl (by kernel_rfl) (by kernel_rfl) (by kernel_rfl) (fun _ _ _ h => h) (by rfl) ?y6 ?r6
      case y6 => (intro w9q hSwq; clear hSwq; go_simp; with_reducible rfl)
      try simp only [Act.put, List.setIfInBounds_toArray, List.set_cons_zero, List.set_cons_succ]
      refine rest_got (i := 6) (v := ?v7) rfl (by kernel_rfl) (by kernel_rfl) (by kernel_rfl) (fun _ _ _ h => h) (by rfl) ?y7 ?r7
      case y7 => (intro w9q hSwq; clear hSwq; go_simp; with_reducible rfl)
      try simp only [Act.put, List.setIfInBounds_toArray, List.set_cons_zero, List.set_cons_succ]
      refine rest_got (i := 7) (v := ?v8) rfl (by kernel_rfl) (by kernel_rfl) (by kernel_rfl) (fun _ _ _ h => h) (by rfl) ?y8 ?r8
      case y8 => ((intro w9' hm9'; obtain ⟨hc0', hc1', hc2', hc3', hc4', hc5', hc6'⟩ := LL2.out w9' hm9'; clear hm9'; go_simp; with_reducible rfl))
      try simp only [Act.put, List.setIfInBounds_toArray, List.set_cons_zero, List.set_cons_succ]
      refine rest_one (i := 8) (by kernel_rfl) rfl (by rfl) ?_
      go_wp2_with fail
      refine HS.out.mono ?_
      rintro e w7 ⟨rfl, m7⟩
      by_cases hs : SameC ⟨client, seq, kind, keys, old, fresh, n⟩ ⟨client', seq', kind', keys', old', fresh', n'⟩
      · rw [decide_eq_true hs]
        have HSS := Lib.hid ((same_iff _ _).1 hs)
        clear hs
        go_wp2_with fail
        refine back_to (K1 := []) m7 (by simp) ?_
        have HM7 := Lib.hid (HM6.out.trans' m7)
        clear m7 LL1 LL2 HS
        refine rest_got (i := 9) (v := ?v9) rfl (by kernel_rfl) (by kernel_rfl) (by kernel_rfl) (fun _ _ _ h => h) (by rfl) ?y9 ?r9
        case y9 => (intro w9q hSwq; clear hSwq; go_simp; with_reducible rfl)
        try simp only [Act.put, List.setIfInBounds_toArray, List.set_cons_zero, List.set_cons_succ]
        refine rest_done (by kernel_rfl) ?_ _
        go_wp2_with fail
        go_roundw
        case rel =>
          refine ⟨k + 1, by omega, by go_num, ?_, HM7.out⟩
          rw [T1.out, T2.out, List.map_append, List.map_append, HA.out]
          exact congrArg (fun x => _ ++ [x]) HSS.out
        case measure => simp [intOf]; omega
      · have hno : ¬ l1.map Prod.fst = l2.map Prod.fst := fun h => hs ((same_iff _ _).2 (by have a := G1.out; have b := G2.out; rw [h] at a; exact Option.some.inj (a.symm.trans b)))
        have hmb : mb = false := by rw [← HV.out]; exact decide_eq_false hno
        subst hmb
        rw [decide_eq_false hs]
        clear hs hno
        go_wp2_with fail
        refine back_to (K1 := []) m7 (by simp) ?_
        have HM7 := Lib.hid (HM6.out.trans' m7)
        clear m7 LL1 LL2 HS
        refine rest_got (i := 9) (v := ?v10) rfl (by kernel_rfl) (by kernel_rfl) (by kernel_rfl) (fun _ _ _ h => h) (by rfl) ?y10 ?r10
        case y10 => (intro w9q hSwq; clear hSwq; go_simp; with_reducible rfl)
        try simp only [Act.put, List.setIfInBounds_toArray, List.set_cons_zero, List.set_cons_succ]
        refine rest_done (by kernel_rfl) ?_ _
        go_wp2_with fail
        go_ret
        exact ⟨rfl, HM7.out⟩
    · have hke : k = l1.length := by omega
      subst hke
      have hmb : mb = true := by rw [← HV.out]; exact decide_eq_true (by have := HA.out; rw [List.take_length, ← HL.out, List.take_length] at this; exact this)
      subst hmb
      go_wp2
      go_ret
      exact ⟨rfl, HM.out⟩
end Go.Proofs.YtaagfoeedngdjaaDoor
