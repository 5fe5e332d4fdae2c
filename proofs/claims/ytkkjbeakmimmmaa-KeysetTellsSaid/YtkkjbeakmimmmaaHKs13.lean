/- The reference: whether a command is lone, and whether two are in each other's way. -/
import Derived.Test.YtkkjbeakmimmmaaHKs12
import Derived.Test.YtkkjbeakmimmmaaHKs9
import Derived.BigQuiet
namespace Go.Proofs.Ytkkjbeakmimmmaa
open Go Go.RowKit Go.Lib

set_option maxRecDepth 100000 in
set_option maxHeartbeats 4000000 in
theorem refLone_any (c : Cm) (w : World) (hk : SeesT w c.2.1 c.1.keys) (h1 : c.1.keys.length ≤ 100000) : Calls Try.prog 11 #[cmdV c] w fun e w' => e = .returned (.bool (lone c.1)) ∧ Mod [] w w' := by
  obtain ⟨w1, hw1', M1, z1, q0, q1, q2, q3, q4, q5, q6⟩ := box_facts c w
  have HT := Lib.hid (refTouch_any c w1 (hk.mod0 M1) h1)
  have HM1 := Lib.hid M1
  obtain ⟨bl, hbl⟩ : ∃ b, lone c.1 = b := ⟨_, rfl⟩
  rw [hbl]
  have HL := Lib.hid hbl
  obtain ⟨nn, hnn⟩ : ∃ b, (tk c.1.keys).length = b := ⟨_, rfl⟩
  have HN := Lib.hid hnn
  rw [hnn] at HT
  unfold LenR at HT
  obtain ⟨⟨client, seq, kind, keys, old, fresh, n⟩, kao, kcap⟩ := c
  dsimp only at hw1' q0 q1 q2 q3 q4 q5 q6 h1
  clear hk M1 hbl h1 hnn
  show Calls Try.prog 11 #[.agg #[.int .u32 (client : Int), .int .u32 (seq : Int), .int .u8 (kind : Int), .slice kao keys.length kcap, .string old, .string fresh, .int .i64 n]] w fun e w' => e = .returned (.bool bl) ∧ Mod [] w w'
  go_enter Try.func11, Try.ntmps11
  go_wp2_with fail
  refine HT.out.mono ?_
  rintro e w2 ⟨ao, cap, rfl, m⟩
  have HM := Lib.hid (HM1.out.trans' m)
  clear m
  go_wp2
  go_ret
  refine ⟨?_, HM.out⟩
  have e : bl = decide (4 < nn) := by rw [← HL.out, ← HN.out]; rfl
  rw [e, show decide (4 < nn) = decide ((4 : Int) < (nn : Int)) from decide_eq_decide.2 (by omega)]
  rfl
theorem Mod.drewN (S : List Nat) (w : World) (n : Nat) : Mod S w (w.drewN n) := ⟨rfl, rfl, rfl, Nat.le_refl _, fun _ _ _ => rfl⟩
theorem way_true {c d : Cd} {x : ByteArray} (h1 : x ∈ c.keys) (h2 : x ∈ d.keys) : way c d = true :=
  (way_iff c d).2 (.inr (.inr (.inr ⟨x, (tk_mem _ _).2 h1, (tk_mem _ _).2 h2⟩)))
theorem share_false {c d : Cd} (h : ∀ x, x ∈ c.keys → x ∉ d.keys) : share c d = false := by
  cases hs : share c d with
  | false => rfl
  | true =>
    obtain ⟨x, h1, h2⟩ := (share_iff c d).1 hs
    exact absurd ((tk_mem _ _).1 h2) (h x ((tk_mem _ _).1 h1))
set_option maxRecDepth 100000 in
set_option maxHeartbeats 4000000 in
theorem refWay_any (c d : Cm) (w : World) (hk : SeesT w c.2.1 c.1.keys) (h1 : c.1.keys.length ≤ 100000) (hk' : SeesT w d.2.1 d.1.keys) (h1' : d.1.keys.length ≤ 100000) :
    Calls Try.prog 12 #[cmdV c, cmdV d] w fun e w' => e = .returned (.bool (way c.1 d.1)) ∧ Mod [] w w' := by
  obtain ⟨w1, hw1', M1, z1, q0, q1, q2, q3, q4, q5, q6⟩ := box_facts c w
  obtain ⟨w2, hw2', M2, z2, r0, r1, r2, r3, r4, r5, r6⟩ := box_facts d w1
  rw [z1] at r0 r1 r2 r3 r4 r5 r6
  have HLc : Hid (∀ w', Mod [] w w' → Calls Try.prog 11 #[cmdV c] w' fun e w2 => e = .returned (.bool (lone c.1)) ∧ Mod [] w' w2) := Lib.hid fun w' m => refLone_any c w' (hk.mod0 m) h1
  have HLd : Hid (∀ w', Mod [] w w' → Calls Try.prog 11 #[cmdV d] w' fun e w2 => e = .returned (.bool (lone d.1)) ∧ Mod [] w' w2) := Lib.hid fun w' m => refLone_any d w' (hk'.mod0 m) h1'
  have HM2 := Lib.hid (M1.trans' M2)
  replace q0 := M2.cell q0 List.not_mem_nil
  replace q1 := M2.cell q1 List.not_mem_nil
  replace q2 := M2.cell q2 List.not_mem_nil
  replace q3 := M2.cell q3 List.not_mem_nil
  replace q4 := M2.cell q4 List.not_mem_nil
  replace q5 := M2.cell q5 List.not_mem_nil
  replace q6 := M2.cell q6 List.not_mem_nil
  obtain ⟨bw, hbw⟩ : ∃ b, way c.1 d.1 = b := ⟨_, rfl⟩
  have HWT : Hid (∀ x, x ∈ c.1.keys → x ∈ d.1.keys → bw = true) := Lib.hid fun x h1 h2 => hbw ▸ way_true h1 h2
  have HWF : Hid ((∀ x, x ∈ c.1.keys → x ∉ d.1.keys) → (lone c.1 || lone d.1 || c.1.client == d.1.client) = bw) := Lib.hid fun h => by
    rw [← hbw]
    unfold way
    rw [share_false h, Bool.or_false]
  rw [hbw]
  obtain ⟨bc, hbc⟩ : ∃ b, lone c.1 = b := ⟨_, rfl⟩
  obtain ⟨bd, hbd⟩ : ∃ b, lone d.1 = b := ⟨_, rfl⟩
  rw [hbc] at HLc HWF
  rw [hbd] at HLd HWF
  have HK := Lib.hid (hk.mod0 HM2.out)
  have HK' := Lib.hid (hk'.mod0 HM2.out)
  clear hk hk' M1 M2 hbc hbd hbw
  obtain ⟨⟨client, seq, kind, keys, old, fresh, n⟩, kao, kcap⟩ := c
  obtain ⟨⟨client', seq', kind', keys', old', fresh', n'⟩, kao', kcap'⟩ := d
  dsimp only at hw1' hw2' q0 q1 q2 q3 q4 q5 q6 r0 r1 r2 r3 r4 r5 r6 HWT HWF HK HK' h1 h1' ⊢
  obtain ⟨x0, E0⟩ : ∃ b, ((client : Int) == (client' : Int)) = b := ⟨_, rfl⟩
  have E0' : (client == client') = x0 := by
    rw [← E0]
    by_cases h : client = client'
    · subst h; simp
    · rw [beq_eq_false_iff_ne.2 h, beq_eq_false_iff_ne.2 (by omega)]
  rw [E0'] at HWF
  clear E0'
  show Calls Try.prog 12 #[.agg #[.int .u32 (client : Int), .int .u32 (seq : Int), .int .u8 (kind : Int), .slice kao keys.length kcap, .string old, .string fresh, .int .i64 n], .agg #[.int .u32 (client' : Int), .int .u32 (seq' : Int), .int .u8 (kind' : Int), .slice kao' keys'.length kcap', .string old', .string fresh', .int .i64 n']] w fun e w' => e = .returned (.bool bw) ∧ Mod [] w w'
  obtain ⟨kl, hkl⟩ : ∃ x, keys.length = x := ⟨_, rfl⟩
  obtain ⟨kl', hkl'⟩ : ∃ x, keys'.length = x := ⟨_, rfl⟩
  have HKV : Hid (cmdV (⟨client, seq, kind, keys, old, fresh, n⟩, kao, kcap) = .agg #[.int .u32 (client : Int), .int .u32 (seq : Int), .int .u8 (kind : Int), .slice kao kl kcap, .string old, .string fresh, .int .i64 n]) := Lib.hid (by rw [← hkl]; rfl)
  have HKV' : Hid (cmdV (⟨client', seq', kind', keys', old', fresh', n'⟩, kao', kcap') = .agg #[.int .u32 (client' : Int), .int .u32 (seq' : Int), .int .u8 (kind' : Int), .slice kao' kl' kcap', .string old', .string fresh', .int .i64 n']) := Lib.hid (by rw [← hkl']; rfl)
  rw [HKV.out] at HLc
  rw [HKV'.out] at HLd
  rw [hkl] at hw1' q3 h1 ⊢
  rw [hkl'] at hw2' r3 h1' ⊢
  have HKL := Lib.hid hkl
  have HKL' := Lib.hid hkl'
  clear hkl hkl' HKV HKV'
  go_enter Try.func12, Try.ntmps12
  go_wp2
  clear hw1' hw2'
  have q3o := Lib.hid q3
  have r3o := Lib.hid r3
  go_loopw [5] (fun i wr => ∃ j : Nat, j ≤ kl ∧ i = .int .i64 (j : Int) ∧ (∀ x, x ∈ keys.take j → x ∉ keys') ∧ Mod [] w2 wr) (fun i _ => kl - (intOf i).toNat)
  case atStart => exact ⟨0, Nat.zero_le _, rfl, fun x hx => by simp at hx, Mod.refl _ _⟩
  case round =>
    obtain ⟨j, hj, rfl, hno, hmod⟩ := hrel
    have HNO := Lib.hid hno
    have HMd := Lib.hid hmod
    replace q0 := hmod.cell q0 List.not_mem_nil
    replace r0 := hmod.cell r0 List.not_mem_nil
    replace q1 := hmod.cell q1 List.not_mem_nil
    replace r1 := hmod.cell r1 List.not_mem_nil
    replace q2 := hmod.cell q2 List.not_mem_nil
    replace r2 := hmod.cell r2 List.not_mem_nil
    replace q3 := hmod.cell q3 List.not_mem_nil
    replace r3 := hmod.cell r3 List.not_mem_nil
    replace q4 := hmod.cell q4 List.not_mem_nil
    replace r4 := hmod.cell r4 List.not_mem_nil
    replace q5 := hmod.cell q5 List.not_mem_nil
    replace r5 := hmod.cell r5 List.not_mem_nil
    replace q6 := hmod.cell q6 List.not_mem_nil
    replace r6 := hmod.cell r6 List.not_mem_nil
    clear hno hmod
    by_cases hlt : j < kl
    · have hji : (j : Int) < (kl : Int) := by omega
      have hjl : j < keys.length := by rw [HKL.out]; exact hlt
      obtain ⟨t1, ht1⟩ : ∃ t, keys[j] = t := ⟨_, rfl⟩
      have HT1 : Hid (keys.take (j + 1) = keys.take j ++ [t1]) := Lib.hid (by rw [take_snoc keys j hjl, ht1])
      have HT1m : Hid (t1 ∈ keys) := Lib.hid (ht1 ▸ List.getElem_mem hjl)
      have HC1 : Hid (∃ b off, kao = some ⟨b, off, none⟩ ∧ w2.cell? ⟨b, off + j, none⟩ = some (.string t1)) := Lib.hid (by
        obtain ⟨b, off, h1, h2⟩ := HK.out j hjl
        exact ⟨b, off, h1, ht1 ▸ h2⟩)
      clear ht1
      go_wp2
      go_loopw [6] (fun i wq => ∃ k : Nat, k ≤ kl' ∧ i = .int .i64 (k : Int) ∧ (t1 ∉ keys'.take k) ∧ Mod [] w2 wq) (fun i _ => kl' - (intOf i).toNat)
      case atStart => exact ⟨0, Nat.zero_le _, rfl, by simp, HMd.out⟩
      case round =>
        rename World => wq
        obtain ⟨k, hk, rfl, hnk, hmod⟩ := hrel
        have HNK := Lib.hid hnk
        have HMq := Lib.hid hmod
        have q3' := hmod.cell q3o.out List.not_mem_nil
        have r3' := hmod.cell r3o.out List.not_mem_nil
        clear hnk
        by_cases hlk : k < kl'
        · have hki : (k : Int) < (kl' : Int) := by omega
          have hkl2 : k < keys'.length := by rw [HKL'.out]; exact hlk
          obtain ⟨t2, ht2⟩ : ∃ t, keys'[k] = t := ⟨_, rfl⟩
          have HT2 : Hid (keys'.take (k + 1) = keys'.take k ++ [t2]) := Lib.hid (by rw [take_snoc keys' k hkl2, ht2])
          have HT2m : Hid (t2 ∈ keys') := Lib.hid (ht2 ▸ List.getElem_mem hkl2)
          obtain ⟨b2, off2, e2, c2⟩ := HK'.out k hkl2
          rw [ht2] at c2
          obtain ⟨b1, off1, e1, c1⟩ := HC1.out
          replace c1 := hmod.cell c1 List.not_mem_nil
          replace c2 := hmod.cell c2 List.not_mem_nil
          subst e1 e2
          clear ht2 hmod
          obtain ⟨bb, hbb⟩ : ∃ b, (t1.toList == t2.toList) = b := ⟨_, rfl⟩
          have HBB := Lib.hid ((str_beq t1 t2).symm.trans hbb)
          cases bb with
          | true =>
            have hw : bw = true := HWT.out t1 HT1m.out (by have := HBB.out; rw [decide_eq_true_eq] at this; rw [this]; exact HT2m.out)
            subst hw
            go_wp2_with fail
            go_quiet (fail)
            go_wp2_with fail
            go_ret
            exact ⟨rfl, (HM2.out.trans' HMq.out).trans0 (Mod.drewN _ _ _)⟩
          | false =>
            go_wp2_with fail
            go_quiet (fail)
            go_wp2_with fail
            go_roundw
            case rel =>
              refine ⟨k + 1, by omega, by go_num, ?_, HMq.out.trans0 (Mod.drewN _ _ _)⟩
              rw [HT2.out, List.mem_append, List.mem_singleton]
              rintro (h | h)
              · exact HNK.out h
              · have := HBB.out
                rw [decide_eq_false_iff_not] at this
                exact this h
            case measure => simp [intOf]; omega
        · have hke : k = kl' := by omega
          subst hke
          have HN2 : Hid (t1 ∉ keys') := Lib.hid (by have := HNK.out; rwa [List.take_of_length_le (by rw [HKL'.out]; exact Nat.le_refl _)] at this)
          go_wp2
          go_roundw
          case rel =>
            refine ⟨j + 1, by omega, by go_num, ?_, HMq.out⟩
            rw [HT1.out]
            intro x hx
            rw [List.mem_append, List.mem_singleton] at hx
            rcases hx with h | h
            · exact HNO.out x h
            · rw [h]; exact HN2.out
          case measure => simp [intOf]; omega
    · have hje : j = kl := by omega
      subst hje
      have HF := Lib.hid (HWF.out (by have := HNO.out; rwa [List.take_of_length_le (by rw [HKL.out]; exact Nat.le_refl _)] at this))
      have HMw := Lib.hid (HM2.out.trans' HMd.out)
      go_wp2_with fail
      refine (HLc.out _ HMw.out).mono ?_
      rintro e w5 ⟨rfl, m5⟩
      have HM5 := Lib.hid (HMw.out.trans' m5)
      replace q0 := m5.cell q0 List.not_mem_nil
      replace r0 := m5.cell r0 List.not_mem_nil
      replace q1 := m5.cell q1 List.not_mem_nil
      replace r1 := m5.cell r1 List.not_mem_nil
      replace q2 := m5.cell q2 List.not_mem_nil
      replace r2 := m5.cell r2 List.not_mem_nil
      replace q3 := m5.cell q3 List.not_mem_nil
      replace r3 := m5.cell r3 List.not_mem_nil
      replace q4 := m5.cell q4 List.not_mem_nil
      replace r4 := m5.cell r4 List.not_mem_nil
      replace q5 := m5.cell q5 List.not_mem_nil
      replace r5 := m5.cell r5 List.not_mem_nil
      replace q6 := m5.cell q6 List.not_mem_nil
      replace r6 := m5.cell r6 List.not_mem_nil
      clear m5 HMw
      cases bc with
      | true =>
        obtain rfl : true = bw := HF.out
        go_wp2
        go_ret
        exact ⟨rfl, HM5.out⟩
      | false =>
      go_wp2_with fail
      refine (HLd.out _ HM5.out).mono ?_
      rintro e w6 ⟨rfl, m6⟩
      have HM6 := Lib.hid (HM5.out.trans' m6)
      replace q0 := m6.cell q0 List.not_mem_nil
      replace r0 := m6.cell r0 List.not_mem_nil
      replace q1 := m6.cell q1 List.not_mem_nil
      replace r1 := m6.cell r1 List.not_mem_nil
      replace q2 := m6.cell q2 List.not_mem_nil
      replace r2 := m6.cell r2 List.not_mem_nil
      replace q3 := m6.cell q3 List.not_mem_nil
      replace r3 := m6.cell r3 List.not_mem_nil
      replace q4 := m6.cell q4 List.not_mem_nil
      replace r4 := m6.cell r4 List.not_mem_nil
      replace q5 := m6.cell q5 List.not_mem_nil
      replace r5 := m6.cell r5 List.not_mem_nil
      replace q6 := m6.cell q6 List.not_mem_nil
      replace r6 := m6.cell r6 List.not_mem_nil
      clear m6 HM5
      cases bd with
      | true =>
        obtain rfl : true = bw := HF.out
        go_wp2
        go_ret
        exact ⟨rfl, HM6.out⟩
      | false =>
      obtain rfl : x0 = bw := HF.out
      go_wp2
      go_ret
      exact ⟨rfl, HM6.out⟩
end Go.Proofs.Ytkkjbeakmimmmaa
