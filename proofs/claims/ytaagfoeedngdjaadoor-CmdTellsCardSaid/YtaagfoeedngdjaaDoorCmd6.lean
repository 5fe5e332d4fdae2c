/- The walks that compare commands. -/
import Derived.Test.YtaagfoeedngdjaaDoorCmd4
import Derived.BigQuiet
namespace Go.Proofs.YtaagfoeedngdjaaDoor
open Go Go.RowKit Go.Lib

/-- Are two commands alike? -/
def SameC (c d : Cd) : Prop := c.client = d.client ∧ c.seq = d.seq ∧ c.kind = d.kind ∧ c.keys = d.keys ∧ c.old = d.old ∧ c.fresh = d.fresh ∧ c.n = d.n
instance (c d : Cd) : Decidable (SameC c d) := inferInstanceAs (Decidable (_ ∧ _))
theorem same_iff (c d : Cd) : SameC c d ↔ c = d := by
  constructor
  · rintro ⟨h1, h2, h3, h4, h5, h6, h7⟩
    cases c; cases d
    dsimp only at h1 h2 h3 h4 h5 h6 h7
    subst h1 h2 h3 h4 h5 h6 h7
    rfl
  · rintro rfl
    exact ⟨rfl, rfl, rfl, rfl, rfl, rfl, rfl⟩

theorem str_beq (s t : ByteArray) : (s.toList == t.toList) = decide (s = t) := by
  rw [ByteArray.toList_eq, ByteArray.toList_eq]
  apply Bool.eq_iff_iff.2
  rw [beq_iff_eq, decide_eq_true_iff]
  exact ⟨fun h => by rw [str_eta s, str_eta t, h], fun h => by rw [h]⟩

set_option maxRecDepth 100000 in
set_option maxHeartbeats 2000000 in
theorem equalT_any (ao : Option Addr) (n1 c1 : Nat) (l1 : List ByteArray) (bo : Option Addr) (n2 c2 : Nat) (l2 : List ByteArray) (w : World) (e1 : l1.length = n1) (e2 : l2.length = n2) (b1 : n1 ≤ 9223372036854775807) (b2 : n2 ≤ 9223372036854775807)
    (h1 : SeesT w ao l1) (h2 : SeesT w bo l2) :
    Calls Tryd.prog 36 #[.slice ao n1 c1, .slice bo n2 c2] w fun e w' => e = .returned (.bool (decide (l1 = l2))) ∧ Mod [] w w' := by
  subst e1
  have H1 := Lib.hid h1
  have H2 := Lib.hid h2
  have HL := Lib.hid e2
  clear h1 h2
  by_cases hne : l1.length = n2
  case neg =>
    have hno : ¬ l1 = l2 := fun h => hne (by rw [h]; exact e2)
    rw [decide_eq_false hno]
    have D : ((l1.length : Int) == (n2 : Int)) = false := by simp; omega
    clear hno e2
    go_enter Tryd.func36, Tryd.ntmps36
    go_wp2
    go_ret
    exact ⟨rfl, Mod.refl _ _⟩
  clear e2
  subst hne
  obtain ⟨mb, hmb⟩ : ∃ b, decide (l1 = l2) = b := ⟨_, rfl⟩
  rw [hmb]
  have HV := Lib.hid hmb
  clear hmb
  go_enter Tryd.func36, Tryd.ntmps36
  go_wp2
  go_loopw [13] (fun i wr => ∃ k : Nat, k ≤ l1.length ∧ i = .int .i64 (k : Int) ∧ l1.take k = l2.take k ∧ Mod [] w wr) (fun i _ => l1.length - (intOf i).toNat)
  case atStart => exact ⟨0, Nat.zero_le _, rfl, rfl, Mod.refl _ _⟩
  case round =>
    obtain ⟨k, hk, rfl, hall, hm⟩ := hrel
    have HA := Lib.hid hall
    have HM := Lib.hid hm
    clear hall hm
    by_cases hlt : k < l1.length
    · have hlt2 : k < l2.length := by rw [HL.out]; exact hlt
      obtain ⟨b, off, rfl, p1⟩ := (H1.out.mod0 HM.out) k hlt
      obtain ⟨b2, off2, rfl, p2⟩ := (H2.out.mod0 HM.out) k hlt2
      have T1 := Lib.hid (take_snoc l1 k hlt)
      have T2 := Lib.hid (take_snoc l2 k hlt2)
      have G1 : Hid (l1[k]? = some l1[k]) := Lib.hid (List.getElem?_eq_getElem hlt)
      have G2 : Hid (l2[k]? = some l2[k]) := Lib.hid (List.getElem?_eq_getElem hlt2)
      obtain ⟨t1, ht1⟩ : ∃ t, l1[k] = t := ⟨_, rfl⟩
      obtain ⟨t2, ht2⟩ : ∃ t, l2[k] = t := ⟨_, rfl⟩
      rw [ht1] at p1 T1 G1
      rw [ht2] at p2 T2 G2
      clear ht1 ht2 hlt2
      by_cases hs : t1 = t2
      · subst hs
        go_wp2_with fail
        go_quiet (fail)
        go_wp2_with fail
        go_roundw
        case rel =>
          refine ⟨k + 1, by omega, by go_num, by rw [T1.out, T2.out, HA.out], HM.out.trans0 (Mod.drewN _ _ _)⟩
        case measure => simp [intOf]; omega
      · have hno : ¬ l1 = l2 := fun h => hs (by have a := G1.out; have b := G2.out; rw [h] at a; exact Option.some.inj (a.symm.trans b))
        have hmb : mb = false := by rw [← HV.out]; exact decide_eq_false hno
        subst hmb
        have NE : (t1.toList == t2.toList) = false := by rw [str_beq]; exact decide_eq_false hs
        go_wp2_with fail
        go_quiet (fail)
        go_wp2_with fail
        go_ret
        exact ⟨rfl, HM.out.trans0 (Mod.drewN _ _ _)⟩
    · have hke : k = l1.length := by omega
      subst hke
      have hmb : mb = true := by rw [← HV.out]; exact decide_eq_true (by have := HA.out; rw [List.take_length, ← HL.out, List.take_length] at this; exact this)
      subst hmb
      go_wp2
      go_ret
      exact ⟨rfl, HM.out⟩

set_option maxRecDepth 100000 in
set_option maxHeartbeats 4000000 in
theorem sameRef_any (c d : Cm) (w : World) (hw : Wf c.1) (hw' : Wf d.1) (h1 : SeesT w c.2.1 c.1.keys) (h2 : SeesT w d.2.1 d.1.keys) :
    Calls Tryd.prog 15 #[cmdV c, cmdV d] w fun e w' => e = .returned (.bool (decide (SameC c.1 d.1))) ∧ Mod [] w w' := by
  obtain ⟨⟨client, seq, kind, keys, old, fresh, n⟩, kao, kcap⟩ := c
  obtain ⟨⟨client', seq', kind', keys', old', fresh', n'⟩, kao', kcap'⟩ := d
  obtain ⟨hw1, hw2, hw3, hw4, -, hw6, hw7, hw8, hw9⟩ := hw
  obtain ⟨hv1, hv2, hv3, hv4, -, hv6, hv7, hv8, hv9⟩ := hw'
  dsimp only at hw1 hw2 hw3 hw4 hw6 hw7 hw8 hw9 h1 hv1 hv2 hv3 hv4 hv6 hv7 hv8 hv9 h2
  obtain ⟨w1, hw1', M1, z1, q0, q1, q2, q3, q4, q5, q6⟩ := box_facts (⟨client, seq, kind, keys, old, fresh, n⟩, kao, kcap) w
  obtain ⟨w2, hw2', M2, z2, r0, r1, r2, r3, r4, r5, r6⟩ := box_facts (⟨client', seq', kind', keys', old', fresh', n'⟩, kao', kcap') w1
  dsimp only at hw1' hw2' q0 q1 q2 q3 q4 q5 q6 r0 r1 r2 r3 r4 r5 r6
  have H1 := Lib.hid ((h1.mod0 M1).mod0 M2)
  have H2 := Lib.hid ((h2.mod0 M1).mod0 M2)
  have M := Lib.hid (M1.trans' M2)
  rw [z1] at r0 r1 r2 r3 r4 r5 r6
  replace q0 := M2.cell q0 List.not_mem_nil
  replace q1 := M2.cell q1 List.not_mem_nil
  replace q2 := M2.cell q2 List.not_mem_nil
  replace q3 := M2.cell q3 List.not_mem_nil
  replace q4 := M2.cell q4 List.not_mem_nil
  replace q5 := M2.cell q5 List.not_mem_nil
  replace q6 := M2.cell q6 List.not_mem_nil
  clear h1 h2 M1 M2
  show Calls Tryd.prog 15 #[.agg #[.int .u32 (client : Int), .int .u32 (seq : Int), .int .u8 (kind : Int), .slice kao keys.length kcap, .string old, .string fresh, .int .i64 n], .agg #[.int .u32 (client' : Int), .int .u32 (seq' : Int), .int .u8 (kind' : Int), .slice kao' keys'.length kcap', .string old', .string fresh', .int .i64 n']] w fun e w' => e = .returned (.bool (decide (SameC ⟨client, seq, kind, keys, old, fresh, n⟩ ⟨client', seq', kind', keys', old', fresh', n'⟩))) ∧ Mod [] w w'
  obtain ⟨mb, hmb⟩ : ∃ b, decide (SameC ⟨client, seq, kind, keys, old, fresh, n⟩ ⟨client', seq', kind', keys', old', fresh', n'⟩) = b := ⟨_, rfl⟩
  rw [hmb]
  have HV := Lib.hid hmb
  clear hmb
  by_cases hl : keys.length = keys'.length
  case neg =>
    have hno : ¬ SameC ⟨client, seq, kind, keys, old, fresh, n⟩ ⟨client', seq', kind', keys', old', fresh', n'⟩ := fun h => hl (congrArg List.length h.2.2.2.1)
    have hmb : mb = false := by rw [← HV.out]; exact decide_eq_false hno
    subst hmb
    have D : ((keys.length : Int) == (keys'.length : Int)) = false := by simp; omega
    clear hno
    go_enter Tryd.func15, Tryd.ntmps15
    go_wp2
    go_ret
    exact ⟨rfl, M.out⟩
  have HL := Lib.hid hl
  have D : ((keys.length : Int) != (keys'.length : Int)) = false := by simp; omega
  clear hl
  go_enter Tryd.func15, Tryd.ntmps15
  go_wp2
  clear hw1' hw2' D
  go_loopw [5] (fun i wr => ∃ k : Nat, k ≤ keys.length ∧ i = .int .i64 (k : Int) ∧ keys.take k = keys'.take k ∧ Mod [] w2 wr) (fun i _ => keys.length - (intOf i).toNat)
  case atStart => exact ⟨0, Nat.zero_le _, rfl, rfl, Mod.refl _ _⟩
  case round =>
    obtain ⟨k, hk, rfl, hall, hm⟩ := hrel
    have HA := Lib.hid hall
    have HM := Lib.hid hm
    clear hall
    replace q0 := hm.cell q0 List.not_mem_nil
    replace q1 := hm.cell q1 List.not_mem_nil
    replace q2 := hm.cell q2 List.not_mem_nil
    replace q3 := hm.cell q3 List.not_mem_nil
    replace q4 := hm.cell q4 List.not_mem_nil
    replace q5 := hm.cell q5 List.not_mem_nil
    replace q6 := hm.cell q6 List.not_mem_nil
    replace r0 := hm.cell r0 List.not_mem_nil
    replace r1 := hm.cell r1 List.not_mem_nil
    replace r2 := hm.cell r2 List.not_mem_nil
    replace r3 := hm.cell r3 List.not_mem_nil
    replace r4 := hm.cell r4 List.not_mem_nil
    replace r5 := hm.cell r5 List.not_mem_nil
    replace r6 := hm.cell r6 List.not_mem_nil
    clear hm
    by_cases hlt : k < keys.length
    · have hlt2 : k < keys'.length := by rw [← HL.out]; exact hlt
      obtain ⟨b, off, rfl, p1⟩ := (H1.out.mod0 HM.out) k hlt
      obtain ⟨b2, off2, rfl, p2⟩ := (H2.out.mod0 HM.out) k hlt2
      have T1 := Lib.hid (take_snoc keys k hlt)
      have T2 := Lib.hid (take_snoc keys' k hlt2)
      have G1 : Hid (keys[k]? = some keys[k]) := Lib.hid (List.getElem?_eq_getElem hlt)
      have G2 : Hid (keys'[k]? = some keys'[k]) := Lib.hid (List.getElem?_eq_getElem hlt2)
      obtain ⟨t1, ht1⟩ : ∃ t, keys[k] = t := ⟨_, rfl⟩
      obtain ⟨t2, ht2⟩ : ∃ t, keys'[k] = t := ⟨_, rfl⟩
      rw [ht1] at p1 T1 G1
      rw [ht2] at p2 T2 G2
      clear ht1 ht2
      by_cases hs : t1 = t2
      · subst hs
        go_wp2_with fail
        go_quiet (fail)
        go_wp2_with fail
        go_roundw
        case rel =>
          refine ⟨k + 1, by omega, by go_num, by rw [T1.out, T2.out, HA.out], HM.out.trans0 (Mod.drewN _ _ _)⟩
        case measure => simp [intOf]; omega
      · have hno : ¬ SameC ⟨client, seq, kind, keys, old, fresh, n⟩ ⟨client', seq', kind', keys', old', fresh', n'⟩ := fun h => hs (by
          have a := G1.out
          have b := G2.out
          have e : keys = keys' := h.2.2.2.1
          rw [e] at a
          exact Option.some.inj (a.symm.trans b))
        have hmb : mb = false := by rw [← HV.out]; exact decide_eq_false hno
        subst hmb
        have NE : (t1.toList == t2.toList) = false := by rw [str_beq]; exact decide_eq_false hs
        go_wp2_with fail
        go_quiet (fail)
        go_wp2_with fail
        go_ret
        exact ⟨rfl, M.out.trans' (HM.out.trans0 (Mod.drewN _ _ _))⟩
    · have hke : k = keys.length := by omega
      subst hke
      have hkk : keys = keys' := by have := HA.out; rw [List.take_length, HL.out, List.take_length] at this; exact this
      obtain ⟨x0, E0⟩ : ∃ b, ((client : Int) == (client' : Int)) = b := ⟨_, rfl⟩
      obtain ⟨x1, E1⟩ : ∃ b, ((seq : Int) == (seq' : Int)) = b := ⟨_, rfl⟩
      obtain ⟨x2, E2⟩ : ∃ b, ((kind : Int) == (kind' : Int)) = b := ⟨_, rfl⟩
      obtain ⟨x4, E4⟩ : ∃ b, (old.toList == old'.toList) = b := ⟨_, rfl⟩
      obtain ⟨x5, E5⟩ : ∃ b, (fresh.toList == fresh'.toList) = b := ⟨_, rfl⟩
      obtain ⟨x6, E6⟩ : ∃ b, (n == n') = b := ⟨_, rfl⟩
      have HX : Hid (mb = (x0 && x1 && x2 && x4 && x5 && x6)) := Lib.hid (by
        rw [← HV.out, ← E0, ← E1, ← E2, ← E4, ← E5, ← E6, str_beq, str_beq]
        apply Bool.eq_iff_iff.2
        rw [decide_eq_true_iff]
        unfold SameC
        simp only [Bool.and_eq_true, decide_eq_true_eq, beq_iff_eq, Int.natCast_inj]
        constructor
        · rintro ⟨a0, a1, a2, a3, a4, a5, a6⟩; exact ⟨⟨⟨⟨⟨a0, a1⟩, a2⟩, a4⟩, a5⟩, a6⟩
        · rintro ⟨⟨⟨⟨⟨a0, a1⟩, a2⟩, a4⟩, a5⟩, a6⟩; exact ⟨a0, a1, a2, hkk, a4, a5, a6⟩)
      clear hkk
      cases x0
      · go_wp2
        go_ret
        exact ⟨by rw [HX.out]; rfl, M.out.trans' HM.out⟩
      cases x1
      · go_wp2
        go_ret
        exact ⟨by rw [HX.out]; rfl, M.out.trans' HM.out⟩
      cases x2
      · go_wp2
        go_ret
        exact ⟨by rw [HX.out]; rfl, M.out.trans' HM.out⟩
      cases x4
      · go_wp2
        go_ret
        exact ⟨by rw [HX.out]; rfl, M.out.trans' HM.out⟩
      cases x5
      · go_wp2
        go_ret
        exact ⟨by rw [HX.out]; rfl, M.out.trans' HM.out⟩
      go_wp2
      go_ret
      exact ⟨by rw [HX.out]; rfl, M.out.trans' HM.out⟩
end Go.Proofs.YtaagfoeedngdjaaDoor
