/- The walks that compare commands, two. -/
import Derived.Test.YtaagfoeedngdjaaDoorCmd6
namespace Go.Proofs.YtaagfoeedngdjaaDoor
open Go Go.RowKit Go.Lib

set_option maxRecDepth 100000 in
set_option maxHeartbeats 4000000 in
theorem sameCmd_any (c d : Cm) (w : World) (hw : Wf c.1) (hw' : Wf d.1) (h1 : SeesT w c.2.1 c.1.keys) (h2 : SeesT w d.2.1 d.1.keys) :
    Calls Tryd.prog 22 #[cmdV c, cmdV d] w fun e w' => e = .returned (.bool (decide (SameC c.1 d.1))) ∧ Mod [] w w' := by
  obtain ⟨⟨client, seq, kind, keys, old, fresh, n⟩, kao, kcap⟩ := c
  obtain ⟨⟨client', seq', kind', keys', old', fresh', n'⟩, kao', kcap'⟩ := d
  obtain ⟨hw1, hw2, hw3, hw4, -, hw6, hw7, hw8, hw9⟩ := hw
  obtain ⟨hv1, hv2, hv3, hv4, -, hv6, hv7, hv8, hv9⟩ := hw'
  dsimp only at hw1 hw2 hw3 hw4 hw6 hw7 hw8 hw9 h1 hv1 hv2 hv3 hv4 hv6 hv7 hv8 hv9 h2
  obtain ⟨w1, hw1', M1, z1, q0, q1, q2, q3, q4, q5, q6⟩ := box_facts (⟨client, seq, kind, keys, old, fresh, n⟩, kao, kcap) w
  obtain ⟨w2, hw2', M2, z2, r0, r1, r2, r3, r4, r5, r6⟩ := box_facts (⟨client', seq', kind', keys', old', fresh', n'⟩, kao', kcap') w1
  dsimp only at hw1' hw2' q0 q1 q2 q3 q4 q5 q6 r0 r1 r2 r3 r4 r5 r6
  have H1 := Lib.hid ((h1.mod0 M1).mod0 M2)
  have H2 := Lib.hid ((h2.mod0 M1).mod0 M2)
  have M := Lib.hid (M1.trans' M2)
  rw [z1] at r0 r1 r2 r3 r4 r5 r6
  replace q0 := M2.cell q0 List.not_mem_nil
  replace q1 := M2.cell q1 List.not_mem_nil
  replace q2 := M2.cell q2 List.not_mem_nil
  replace q3 := M2.cell q3 List.not_mem_nil
  replace q4 := M2.cell q4 List.not_mem_nil
  replace q5 := M2.cell q5 List.not_mem_nil
  replace q6 := M2.cell q6 List.not_mem_nil
  clear h1 h2 M1 M2
  show Calls Tryd.prog 22 #[.agg #[.int .u32 (client : Int), .int .u32 (seq : Int), .int .u8 (kind : Int), .slice kao keys.length kcap, .string old, .string fresh, .int .i64 n], .agg #[.int .u32 (client' : Int), .int .u32 (seq' : Int), .int .u8 (kind' : Int), .slice kao' keys'.length kcap', .string old', .string fresh', .int .i64 n']] w fun e w' => e = .returned (.bool (decide (SameC ⟨client, seq, kind, keys, old, fresh, n⟩ ⟨client', seq', kind', keys', old', fresh', n'⟩))) ∧ Mod [] w w'
  obtain ⟨mb, hmb⟩ : ∃ b, decide (SameC ⟨client, seq, kind, keys, old, fresh, n⟩ ⟨client', seq', kind', keys', old', fresh', n'⟩) = b := ⟨_, rfl⟩
  rw [hmb]
  have HV := Lib.hid hmb
  clear hmb
  obtain ⟨x0, E0⟩ : ∃ b, ((client : Int) == (client' : Int)) = b := ⟨_, rfl⟩
  obtain ⟨x1, E1⟩ : ∃ b, ((seq : Int) == (seq' : Int)) = b := ⟨_, rfl⟩
  obtain ⟨x2, E2⟩ : ∃ b, ((kind : Int) == (kind' : Int)) = b := ⟨_, rfl⟩
  obtain ⟨x3, E3⟩ : ∃ b, decide (keys = keys') = b := ⟨_, rfl⟩
  obtain ⟨x4, E4⟩ : ∃ b, (old.toList == old'.toList) = b := ⟨_, rfl⟩
  obtain ⟨x5, E5⟩ : ∃ b, (fresh.toList == fresh'.toList) = b := ⟨_, rfl⟩
  obtain ⟨x6, E6⟩ : ∃ b, (n == n') = b := ⟨_, rfl⟩
  have HX : Hid (mb = (x0 && x1 && x2 && x3 && x4 && x5 && x6)) := Lib.hid (by
    rw [← HV.out, ← E0, ← E1, ← E2, ← E3, ← E4, ← E5, ← E6, str_beq, str_beq]
    apply Bool.eq_iff_iff.2
    rw [decide_eq_true_iff]
    unfold SameC
    simp only [Bool.and_eq_true, decide_eq_true_eq, beq_iff_eq, Int.natCast_inj]
    constructor
    · rintro ⟨a0, a1, a2, a3, a4, a5, a6⟩; exact ⟨⟨⟨⟨⟨⟨a0, a1⟩, a2⟩, a3⟩, a4⟩, a5⟩, a6⟩
    · rintro ⟨⟨⟨⟨⟨⟨a0, a1⟩, a2⟩, a3⟩, a4⟩, a5⟩, a6⟩; exact ⟨a0, a1, a2, a3, a4, a5, a6⟩)
  have HE3 := Lib.hid E3
  clear E3
  go_enter Tryd.func22, Tryd.ntmps22
  cases x0
  · go_wp2
    go_ret
    exact ⟨by rw [HX.out]; rfl, M.out⟩
  cases x1
  · go_wp2
    go_ret
    exact ⟨by rw [HX.out]; rfl, M.out⟩
  cases x2
  · go_wp2
    go_ret
    exact ⟨by rw [HX.out]; rfl, M.out⟩
  go_wp2_with fail
  refine (equalT_any kao _ kcap keys kao' _ kcap' keys' w2 rfl rfl hw4 hv4 H1.out H2.out).mono ?_
  rintro e w3 ⟨rfl, m3⟩
  rw [HE3.out]
  clear hw1' hw2'
  replace q4 := m3.cell q4 List.not_mem_nil
  replace q5 := m3.cell q5 List.not_mem_nil
  replace q6 := m3.cell q6 List.not_mem_nil
  replace r4 := m3.cell r4 List.not_mem_nil
  replace r5 := m3.cell r5 List.not_mem_nil
  replace r6 := m3.cell r6 List.not_mem_nil
  have M3 := Lib.hid (M.out.trans' m3)
  clear m3
  cases x3
  · go_wp2
    go_ret
    exact ⟨by rw [HX.out]; rfl, M3.out⟩
  cases x4
  · go_wp2
    go_ret
    exact ⟨by rw [HX.out]; rfl, M3.out⟩
  cases x5
  · go_wp2
    go_ret
    exact ⟨by rw [HX.out]; rfl, M3.out⟩
  go_wp2
  go_ret
  exact ⟨by rw [HX.out]; rfl, M3.out⟩

/-- Commands that lie in a row. -/
def SeesC (w : World) (ao : Option Addr) (l : List Cm) : Prop :=
  ∀ j (h : j < l.length), ∃ b off, ao = some ⟨b, off, none⟩ ∧ w.cell? ⟨b, off + j * 7, none⟩ = some (.int .u32 (l[j].1.client : Int)) ∧ w.cell? ⟨b, off + j * 7 + 1, none⟩ = some (.int .u32 (l[j].1.seq : Int)) ∧
    w.cell? ⟨b, off + j * 7 + 2, none⟩ = some (.int .u8 (l[j].1.kind : Int)) ∧ w.cell? ⟨b, off + j * 7 + 3, none⟩ = some (.slice l[j].2.1 l[j].1.keys.length l[j].2.2) ∧ w.cell? ⟨b, off + j * 7 + 4, none⟩ = some (.string l[j].1.old) ∧
    w.cell? ⟨b, off + j * 7 + 5, none⟩ = some (.string l[j].1.fresh) ∧ w.cell? ⟨b, off + j * 7 + 6, none⟩ = some (.int .i64 l[j].1.n) ∧ SeesT w l[j].2.1 l[j].1.keys ∧ Wf l[j].1
theorem SeesC.mod0 {w w' : World} {ao : Option Addr} {l : List Cm} (h : SeesC w ao l) (hm : Mod [] w w') : SeesC w' ao l := by
  intro j hj
  obtain ⟨b, off, h1, c0, c1, c2, c3, c4, c5, c6, ht, hf⟩ := h j hj
  exact ⟨b, off, h1, hm.cell c0 (by simp), hm.cell c1 (by simp), hm.cell c2 (by simp), hm.cell c3 (by simp), hm.cell c4 (by simp), hm.cell c5 (by simp), hm.cell c6 (by simp), ht.mod0 hm, hf⟩

/-- What the test of great ones tells. -/
def GreatR (w : World) (l : List Cm) (e : Ending) (w' : World) : Prop := ∃ b, e = .returned (.bool b) ∧ Mod [] w w' ∧ (b = false → l.length ≤ 100 ∧ ∀ c ∈ l, Small c.1)
set_option maxRecDepth 100000 in
set_option maxHeartbeats 4000000 in
/-- Whether commands are too many, too great. -/
theorem great_any (ao : Option Addr) (len cap : Nat) (l : List Cm) (w : World) (hl : l.length = len) (hs : SeesC w ao l) (hlen : len ≤ 9223372036854775807) :
    Calls Tryd.prog 6 #[.slice ao len cap] w (GreatR w l) := by
  subst hl
  have HS := Lib.hid hs
  clear hs
  by_cases hbig : 100 < l.length
  · go_enter Tryd.func6, Tryd.ntmps6
    go_wp2
    go_ret
    exact ⟨true, rfl, Mod.refl _ _, fun h => absurd h (by decide)⟩
  go_enter Tryd.func6, Tryd.ntmps6
  go_wp2
  go_loopw [3] (fun i wr => ∃ k : Nat, k ≤ l.length ∧ i = .int .i64 (k : Int) ∧ (∀ j, (h : j < l.length) → j < k → Small l[j].1) ∧ Mod [] w wr) (fun i _ => l.length - (intOf i).toNat)
  case atStart => exact ⟨0, Nat.zero_le _, rfl, fun j _ h => absurd h (Nat.not_lt_zero _), Mod.refl _ _⟩
  case round =>
    obtain ⟨k, hk, rfl, hall, hm⟩ := hrel
    have HA := Lib.hid hall
    have HM := Lib.hid hm
    clear hall hm
    by_cases hlt : k < l.length
    · obtain ⟨b, off, rfl, c0, c1, c2, c3, c4, c5, c6, ht, hf⟩ := (HS.out.mod0 HM.out) k hlt
      obtain ⟨⟨⟨client, seq, kind, keys, old, fresh, n⟩, kao, kcap⟩, hx⟩ : ∃ x, l[k] = x := ⟨_, rfl⟩
      rw [hx] at c0 c1 c2 c3 c4 c5 c6 ht hf
      dsimp only at c0 c1 c2 c3 c4 c5 c6 ht hf
      have HX := Lib.hid hx
      obtain ⟨-, -, -, f4, f5, f6, f7, -, -⟩ := hf
      dsimp only at f4 f5 f6 f7
      have F5 := Lib.hid f5
      clear hx f5
      obtain ⟨w2, hw2', M2, z2, q0, q1, q2, q3, q4, q5, q6⟩ := box_facts (⟨client, seq, kind, keys, old, fresh, n⟩, kao, kcap) wr
      dsimp only at hw2' q0 q1 q2 q3 q4 q5 q6
      have HM2 := Lib.hid (HM.out.trans' M2)
      have HT := Lib.hid (ht.mod0 M2)
      clear ht M2
      by_cases h1 : 500 < old.size
      · have D1 : decide ((500 : Int) < (old.size : Int)) = true := decide_eq_true (by omega)
        go_wp2
        go_ret
        exact ⟨true, rfl, HM2.out, fun h => absurd h (by decide)⟩
      have D1 : decide ((500 : Int) < (old.size : Int)) = false := decide_eq_false (by omega)
      by_cases h2 : 500 < fresh.size
      · have D2 : decide ((500 : Int) < (fresh.size : Int)) = true := decide_eq_true (by omega)
        go_wp2
        go_ret
        exact ⟨true, rfl, HM2.out, fun h => absurd h (by decide)⟩
      have D2 : decide ((500 : Int) < (fresh.size : Int)) = false := decide_eq_false (by omega)
      by_cases h3 : 100 < keys.length
      · have D3 : decide ((100 : Int) < (keys.length : Int)) = true := decide_eq_true (by omega)
        go_wp2
        go_ret
        exact ⟨true, rfl, HM2.out, fun h => absurd h (by decide)⟩
      have D3 : decide ((100 : Int) < (keys.length : Int)) = false := decide_eq_false (by omega)
      go_wp2
      clear hw2' D1 D2 D3 c0 c1 c2 c3 c4 c5 c6
      go_loopw [5] (fun i wq => ∃ p : Nat, p ≤ keys.length ∧ i = .int .i64 (p : Int) ∧ (∀ j, (h : j < keys.length) → j < p → keys[j].size ≤ 500) ∧ wq = w2) (fun i _ => keys.length - (intOf i).toNat)
      case atStart => exact ⟨0, Nat.zero_le _, rfl, fun j _ h => absurd h (Nat.not_lt_zero _), rfl⟩
      case round =>
        obtain ⟨p, hp, rfl, hal, rfl⟩ := hrel
        have HB := Lib.hid hal
        clear hal
        by_cases hpt : p < keys.length
        · obtain ⟨b2, off2, rfl, p0⟩ := HT.out p hpt
          have f5 := F5.out _ (List.getElem_mem hpt)
          obtain ⟨t, ht⟩ : ∃ t, keys[p] = t := ⟨_, rfl⟩
          rw [ht] at p0 f5
          have HTT := Lib.hid ht
          clear ht
          by_cases h5 : 500 < t.size
          · have D1 : decide ((500 : Int) < (t.size : Int)) = true := decide_eq_true (by omega)
            go_wp2
            go_ret
            exact ⟨true, rfl, HM2.out, fun h => absurd h (by decide)⟩
          · have D1 : decide ((500 : Int) < (t.size : Int)) = false := decide_eq_false (by omega)
            go_wp2
            go_roundw
            case rel =>
              refine ⟨p + 1, by omega, by go_num, fun j hj hjk => ?_, by first | rfl | trivial⟩
              by_cases he : j = p
              · subst he; rw [HTT.out]; omega
              · exact HB.out j hj (by omega)
            case measure => simp [intOf]; omega
        · have hpe : p = keys.length := by omega
          subst hpe
          go_wp2
          go_roundw
          case rel =>
            refine ⟨k + 1, by omega, by go_num, fun j hj hjk => ?_, HM2.out⟩
            by_cases he : j = k
            · subst he
              rw [HX.out]
              refine ⟨by show keys.length ≤ 100; omega, fun t ht => ?_, by show old.size ≤ 500; omega, by show fresh.size ≤ 500; omega⟩
              obtain ⟨j, hj, rfl⟩ := List.getElem_of_mem ht
              exact HB.out j hj hj
            · exact HA.out j hj (by omega)
          case measure => simp [intOf]; omega
    · have hke : k = l.length := by omega
      subst hke
      go_wp2
      go_ret
      refine ⟨false, rfl, HM.out, fun _ => ⟨by omega, fun x hx => ?_⟩⟩
      obtain ⟨j, hj, rfl⟩ := List.getElem_of_mem hx
      exact HA.out j hj hj
end Go.Proofs.YtaagfoeedngdjaaDoor
