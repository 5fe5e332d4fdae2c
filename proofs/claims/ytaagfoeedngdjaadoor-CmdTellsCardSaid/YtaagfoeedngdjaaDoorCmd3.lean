/- The walk of the reference's test of a command. -/
import Derived.Test.YtaagfoeedngdjaaDoorCmd2
import Derived.Outline
import Derived.Deep.CutRange
import Derived.Deep.CutBlock
namespace Go.Proofs.YtaagfoeedngdjaaDoor
open Go Go.RowKit Go.Lib

set_option maxRecDepth 100000 in
set_option maxHeartbeats 4000000 in
theorem may_any (c : Cm) (w : World) (hw : Wf c.1) (hk : SeesT w c.2.1 c.1.keys) :
    Calls Tryd.prog 11 #[cmdV c] w fun e w' => e = .returned (.bool (decide (May c.1))) ∧ Mod [] w w' := by
  obtain ⟨⟨client, seq, kind, keys, old, fresh, n⟩, kao, kcap⟩ := c
  obtain ⟨hw1, hw2, hw3, hw4, -, hw6, hw7, hw8, hw9⟩ := hw
  dsimp only at hw1 hw2 hw3 hw4 hw6 hw7 hw8 hw9 hk
  have HK := Lib.hid hk
  clear hk
  show Calls Tryd.prog 11 #[.agg #[.int .u32 (client : Int), .int .u32 (seq : Int), .int .u8 (kind : Int), .slice kao keys.length kcap, .string old, .string fresh, .int .i64 n]] w fun e w' => e = .returned (.bool (decide (May ⟨client, seq, kind, keys, old, fresh, n⟩))) ∧ Mod [] w w'
  obtain ⟨mb, hmb⟩ : ∃ x : Bool, decide (May ⟨client, seq, kind, keys, old, fresh, n⟩) = x := ⟨_, rfl⟩
  rw [hmb]
  have HV := Lib.hid hmb
  clear hmb
  by_cases hk8 : 1 ≤ kind ∧ kind ≤ 8
  case neg =>
    have hno : ¬ May ⟨client, seq, kind, keys, old, fresh, n⟩ := fun h => hk8 h.1
    have hmb : mb = false := by rw [← HV.out]; exact decide_eq_false hno
    subst hmb
    have e1 : ((kind : Int) == 1) = false := by simp; omega
    have e2 : ((kind : Int) == 2) = false := by simp; omega
    have e3 : ((kind : Int) == 3) = false := by simp; omega
    have e4 : ((kind : Int) == 4) = false := by simp; omega
    have e5 : ((kind : Int) == 5) = false := by simp; omega
    have e6 : ((kind : Int) == 6) = false := by simp; omega
    have e7 : ((kind : Int) == 7) = false := by simp; omega
    have e8 : ((kind : Int) == 8) = false := by simp; omega
    go_enter Tryd.func11, Tryd.ntmps11
    go_wp2
    go_ret
    exact ⟨rfl, Mod.alloc _ _ _⟩
  go_enter Tryd.func11, Tryd.ntmps11
  go_upto_block 0 with (fail)
  obtain ⟨w1, hw1'⟩ : ∃ x, w.alloc (.cells #[.int .u32 (client : Int), .int .u32 (seq : Int), .int .u8 (kind : Int), .slice kao keys.length kcap, .string old, .string fresh, .int .i64 n] 36) = x := ⟨_, rfl⟩
  have hbox : w1.heap[w.heap.size]? = some (.cells #[.int .u32 (client : Int), .int .u32 (seq : Int), .int .u8 (kind : Int), .slice kao keys.length kcap, .string old, .string fresh, .int .i64 n] 36 (0, 0)) := by rw [← hw1']; exact heap_alloc_new _ _
  have M1 := Lib.hid (hw1' ▸ Mod.alloc [] w (.cells #[.int .u32 (client : Int), .int .u32 (seq : Int), .int .u8 (kind : Int), .slice kao keys.length kcap, .string old, .string fresh, .int .i64 n] 36))
  rw [hw1']
  clear hw1'
  generalize w.heap.size = g at *
  have q0 := cell_of_block (i := 0) hbox
  have q2 := cell_of_block (i := 2) hbox
  have q3 := cell_of_block (i := 3) hbox
  have q4 := cell_of_block (i := 4) hbox
  have q5 := cell_of_block (i := 5) hbox
  have q6 := cell_of_block (i := 6) hbox
  simp only [List.getElem?_toArray, List.getElem?_cons_succ, List.getElem?_cons_zero] at q0 q2 q3 q4 q5 q6
  clear hbox
  go_cut [3, 4] from 8 to 20 (fun lo hi wx => w1 = wx ∧ lo = .int .i64 (least kind : Int) ∧ hi = .int .i64 (most kind : Int))
  · have h8 : kind = 1 ∨ kind = 2 ∨ kind = 3 ∨ kind = 4 ∨ kind = 5 ∨ kind = 6 ∨ kind = 7 ∨ kind = 8 := by omega
    clear HV HK hk8
    rcases h8 with rfl | rfl | rfl | rfl | rfl | rfl | rfl | rfl
    all_goals
      go_wp2
      go_meet
      exact ⟨rfl, rfl, rfl⟩
  obtain ⟨rfl, rfl, rfl⟩ := hcut
  obtain ⟨lo, hlo⟩ : ∃ x, least kind = x := ⟨_, rfl⟩
  obtain ⟨hi, hhi⟩ : ∃ x, most kind = x := ⟨_, rfl⟩
  rw [hlo, hhi]
  have HLO := Lib.hid hlo
  have HHI := Lib.hid hhi
  clear hlo hhi
  have hlo : lo ≤ 16 := by rw [← HLO.out]; unfold least; split <;> omega
  have hhi : hi ≤ 16 := by rw [← HHI.out]; unfold most; split <;> (try split) <;> omega
  go_wp2
  go_loopw [5] (fun i wr => ∃ k : Nat, k ≤ keys.length ∧ i = .int .i64 (k : Int) ∧ (∀ j, (h : j < keys.length) → j < k → KeyOk keys[j]) ∧ wr = w1) (fun i _ => keys.length - (intOf i).toNat)
  case atStart => exact ⟨0, Nat.zero_le _, rfl, fun j _ h => absurd h (Nat.not_lt_zero _), rfl⟩
  case round =>
    obtain ⟨k, hk, rfl, hall, rfl⟩ := hrel
    have HA := Lib.hid hall
    clear hall
    by_cases hlt : k < keys.length
    · obtain ⟨b, off, rfl, p0⟩ := (HK.out.mod0 M1.out) k hlt
      by_cases hok : KeyOk keys[k]
      · obtain ⟨t, ht⟩ : ∃ t, keys[k] = t := ⟨_, rfl⟩
        rw [ht] at p0 hok
        have HT := Lib.hid ht
        clear ht
        have t1 : decide ((t.size : Int) < 1) = false := decide_eq_false (by have := hok.1; omega)
        have t2 : decide ((32 : Int) < (t.size : Int)) = false := decide_eq_false (by have := hok.2; omega)
        go_wp2_with fail
        go_roundw
        case rel =>
          refine ⟨k + 1, by omega, by go_num, fun j hj hjk => ?_, by first | rfl | trivial⟩
          by_cases he : j = k
          · subst he; rw [HT.out]; exact hok
          · exact HA.out j hj (by omega)
        case measure => simp [intOf]; omega
      · have hno : ¬ May ⟨client, seq, kind, keys, old, fresh, n⟩ := fun h => hok (h.2.1 _ (List.getElem_mem hlt))
        have hmb : mb = false := by rw [← HV.out]; exact decide_eq_false hno
        subst hmb
        obtain ⟨t, ht⟩ : ∃ t, keys[k] = t := ⟨_, rfl⟩
        rw [ht] at p0 hok
        clear ht
        by_cases h1 : t.size < 1
        · have t1 : decide ((t.size : Int) < 1) = true := decide_eq_true (by omega)
          go_wp2_with fail
          go_ret
          exact ⟨rfl, M1.out⟩
        · have t1 : decide ((t.size : Int) < 1) = false := decide_eq_false (by omega)
          have t2 : decide ((32 : Int) < (t.size : Int)) = true := decide_eq_true (Decidable.byContradiction fun h => hok ⟨by omega, by omega⟩)
          go_wp2_with fail
          go_ret
          exact ⟨rfl, M1.out⟩
    · have hke : k = keys.length := by omega
      subst hke
      obtain ⟨oe, EO⟩ : ∃ b, old.toList.isEmpty = b := ⟨_, rfl⟩
      obtain ⟨fe, EF⟩ : ∃ b, fresh.toList.isEmpty = b := ⟨_, rfl⟩
      obtain ⟨b5, E5⟩ : ∃ b, ((kind : Int) == 5) = b := ⟨_, rfl⟩
      obtain ⟨b4, E4⟩ : ∃ b, ((kind : Int) == 4) = b := ⟨_, rfl⟩
      obtain ⟨b1, E1⟩ : ∃ b, ((kind : Int) == 1) = b := ⟨_, rfl⟩
      have HM : Hid (mb = true ↔ (oe = true ∨ b5 = true) ∧ (fe = true ∨ b1 = true ∨ b5 = true) ∧ 0 < client ∧ lo ≤ keys.length ∧ keys.length ≤ hi ∧ (old.size : Int) ≤ 64 ∧ (fresh.size : Int) ≤ 64 ∧ (n = 0 ∨ b4 = true)) := Lib.hid (by
        have e1 : b1 = true ↔ kind = 1 := by rw [← E1]; simp; omega
        have e5 : b5 = true ↔ kind = 5 := by rw [← E5]; simp; omega
        have e4 : b4 = true ↔ kind = 4 := by rw [← E4]; simp; omega
        have h3 : oe = true ↔ old.size = 0 := by rw [← EO, isEmpty_iff]
        have h4 : fe = true ↔ fresh.size = 0 := by rw [← EF, isEmpty_iff]
        rw [e1, e5, e4, h3, h4, ← HV.out, decide_eq_true_iff]
        constructor
        · intro h
          have a1 : 0 < client := h.2.2.1
          have a2 : least kind ≤ keys.length := h.2.2.2.1
          have a3 : keys.length ≤ most kind := h.2.2.2.2.1
          have a4 : old.size ≤ 64 := h.2.2.2.2.2.1
          have a5 : fresh.size ≤ 64 := h.2.2.2.2.2.2.1
          rw [HLO.out] at a2
          rw [HHI.out] at a3
          exact ⟨h.2.2.2.2.2.2.2.1, h.2.2.2.2.2.2.2.2.1, a1, a2, a3, by omega, by omega, h.2.2.2.2.2.2.2.2.2⟩
        · rintro ⟨a6, a7, a1, a2, a3, a4, a5, a8⟩
          refine ⟨hk8, fun k hk => ?_, a1, by show least kind ≤ keys.length; rw [HLO.out]; omega, by show keys.length ≤ most kind; rw [HHI.out]; omega, by show old.size ≤ 64; omega, by show fresh.size ≤ 64; omega, a6, a7, a8⟩
          obtain ⟨j, hj, rfl⟩ := List.getElem_of_mem hk
          exact HA.out j hj hj)
      go_wp2_with fail
      all_goals go_ret
      all_goals
        refine ⟨congrArg (fun b => Ending.returned (.bool b)) (Bool.eq_iff_iff.2 ?_), M1.out⟩
        rw [HM.out]
        clear HM HV HK HLO HHI M1 HA q0 q2 q3 q4 q5 q6 EO EF E5 E4 E1 hw1 hw2 hw3 hw4 hw6 hw7 hw8 hw9 hk hlt hk8 hlo hhi
        first | (simp_all; done) | (simp_all; omega) | omega
end Go.Proofs.YtaagfoeedngdjaaDoor
