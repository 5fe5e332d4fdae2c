/- The walks of a command's check. -/
import Derived.Test.YtaagfoeedngdjaaDoorCmd
import Derived.BigQuiet
namespace Go.Proofs.YtaagfoeedngdjaaDoor
open Go Go.RowKit Go.Lib

theorem Mod.drewN (S : List Nat) (w : World) (n : Nat) : Mod S w (w.drewN n) := ⟨rfl, rfl, rfl, Nat.le_refl _, fun _ _ _ => rfl⟩
theorem isEmpty_iff (s : ByteArray) : s.toList.isEmpty = true ↔ s.size = 0 := by
  rw [ByteArray.toList_eq, ← size_data s, List.isEmpty_iff, List.length_eq_zero_iff]
theorem ret_no {c : Cd} {mc : Int} (h : Hid ((if May c then (0 : Int) else 1) = mc)) (hno : ¬ May c) : Ending.returned (.int .i64 1) = .returned (.int .i64 mc) := by rw [← h.out, if_neg hno]
theorem ret_yes {c : Cd} {mc : Int} (h : Hid ((if May c then (0 : Int) else 1) = mc)) (hy : May c) : Ending.returned (.int .i64 0) = .returned (.int .i64 mc) := by rw [← h.out, if_pos hy]

set_option maxRecDepth 100000 in
set_option maxHeartbeats 4000000 in
theorem check_any (c : Cm) (w : World) (hw : Wf c.1) (hk : SeesT w c.2.1 c.1.keys) (ht : Cnt w) :
    Calls Tryd.prog 20 #[cmdV c] w fun e w' => e = .returned (.int .i64 (if May c.1 then 0 else 1)) ∧ Mod [] w w' := by
  obtain ⟨⟨client, seq, kind, keys, old, fresh, n⟩, kao, kcap⟩ := c
  obtain ⟨hw1, hw2, hw3, hw4, -, hw6, hw7, hw8, hw9⟩ := hw
  dsimp only at hw1 hw2 hw3 hw4 hw6 hw7 hw8 hw9 hk
  have HK := Lib.hid hk
  have HT := Lib.hid ht
  clear hk ht
  show Calls Tryd.prog 20 #[.agg #[.int .u32 (client : Int), .int .u32 (seq : Int), .int .u8 (kind : Int), .slice kao keys.length kcap, .string old, .string fresh, .int .i64 n]] w fun e w' => e = .returned (.int .i64 (if May ⟨client, seq, kind, keys, old, fresh, n⟩ then 0 else 1)) ∧ Mod [] w w'
  obtain ⟨mc, hmc⟩ : ∃ x : Int, (if May ⟨client, seq, kind, keys, old, fresh, n⟩ then (0 : Int) else 1) = x := ⟨_, rfl⟩
  rw [hmc]
  have HV := Lib.hid hmc
  clear hmc
  by_cases c0 : client = 0
  · subst c0
    have hno : ¬ May ⟨0, seq, kind, keys, old, fresh, n⟩ := fun h => absurd h.2.2.1 (Nat.lt_irrefl 0)
    go_enter Tryd.func20, Tryd.ntmps20
    go_wp2
    go_ret
    exact ⟨ret_no HV hno, Mod.alloc _ _ _⟩
  by_cases k0 : kind = 0
  · subst k0
    have hno : ¬ May ⟨client, seq, 0, keys, old, fresh, n⟩ := fun h => absurd h.1.1 (Nat.not_succ_le_zero 0)
    go_enter Tryd.func20, Tryd.ntmps20
    go_wp2
    go_ret
    exact ⟨ret_no HV hno, Mod.alloc _ _ _⟩
  have E0 : ((client : Int) == 0) = false := by simp; omega
  have E1 : ((kind : Int) == 0) = false := by simp; omega
  by_cases k9 : 9 ≤ kind
  · have hno : ¬ May ⟨client, seq, kind, keys, old, fresh, n⟩ := fun h => absurd h.1.2 (by show ¬ kind ≤ 8; omega)
    go_enter Tryd.func20, Tryd.ntmps20
    go_wp2
    go_ret
    exact ⟨ret_no HV hno, Mod.alloc _ _ _⟩
  obtain ⟨t0, t1⟩ := HT.out kind (by omega) (by omega)
  obtain ⟨lo, hlo⟩ : ∃ x, least kind = x := ⟨_, rfl⟩
  obtain ⟨hi, hhi⟩ : ∃ x, most kind = x := ⟨_, rfl⟩
  rw [hlo] at t0
  rw [hhi] at t1
  have HLO := Lib.hid hlo
  have HHI := Lib.hid hhi
  clear hlo hhi
  have h0 := World.block_lt_of_cell? w _ t0
  dsimp only at h0
  have h0' : ¬ 0 = w.heap.size := by omega
  have E2 : decide ((9 : Int) ≤ (kind : Int)) = false := decide_eq_false (by omega)
  obtain ⟨b5, E5⟩ : ∃ b, ((kind : Int) == 5) = b := ⟨_, rfl⟩
  obtain ⟨b4, E4⟩ : ∃ b, ((kind : Int) == 4) = b := ⟨_, rfl⟩
  go_enter Tryd.func20, Tryd.ntmps20
  go_wp2_with fail
  go_quiet (fail)
  have H5 : Hid (b5 = true ↔ kind = 5) := Lib.hid (by rw [← E5]; simp; omega)
  have H4 : Hid (b4 = true ↔ kind = 4) := Lib.hid (by rw [← E4]; simp; omega)
  clear E5 E4
  have MW : Hid (∀ o o' nq, Mod [] w (((w.alloc o).alloc o').drewN nq)) := Lib.hid (fun o o' nq => ((Mod.alloc _ _ _).trans' (Mod.alloc _ _ _)).trans' (Mod.drewN _ _ _))
  by_cases hL : keys.length < lo
  · have hno : ¬ May ⟨client, seq, kind, keys, old, fresh, n⟩ := fun h => by have := h.2.2.2.1; rw [HLO.out] at this; exact absurd hL (Nat.not_lt_of_le this)
    have D1 : decide ((keys.length : Int) < (lo : Int)) = true := decide_eq_true (by omega)
    go_wp2
    go_ret
    exact ⟨ret_no HV hno, MW.out _ _ _⟩
  have D1 : decide ((keys.length : Int) < (lo : Int)) = false := decide_eq_false (by omega)
  by_cases hM : hi < keys.length
  · have hno : ¬ May ⟨client, seq, kind, keys, old, fresh, n⟩ := fun h => by have := h.2.2.2.2.1; rw [HHI.out] at this; exact absurd hM (Nat.not_lt_of_le this)
    have D2 : decide ((hi : Int) < (keys.length : Int)) = true := decide_eq_true (by omega)
    go_wp2
    go_ret
    exact ⟨ret_no HV hno, MW.out _ _ _⟩
  have D2 : decide ((hi : Int) < (keys.length : Int)) = false := decide_eq_false (by omega)
  go_wp2_with fail
  refine (containsT_any kao keys.length kcap keys _ rfl (HK.out.mod0 (MW.out _ _ _)) hw4).mono ?_
  rintro e w1 ⟨rfl, rfl⟩
  by_cases hB : ∃ k ∈ keys, ¬ KeyOk k
  · have hno : ¬ May ⟨client, seq, kind, keys, old, fresh, n⟩ := fun h => by obtain ⟨k, h1, h2⟩ := hB; exact h2 (h.2.1 k h1)
    rw [decide_eq_true hB]
    clear hB
    go_wp2_with fail
    go_ret
    exact ⟨ret_no HV hno, MW.out _ _ _⟩
  rw [decide_eq_false hB]
  have HB := Lib.hid hB
  clear hB
  by_cases hO : 64 < old.size
  · have hno : ¬ May ⟨client, seq, kind, keys, old, fresh, n⟩ := fun h => by have := h.2.2.2.2.2.1; exact absurd hO (Nat.not_lt_of_le this)
    have D3 : decide ((64 : Int) < (old.size : Int)) = true := decide_eq_true (by omega)
    go_wp2_with fail
    go_ret
    exact ⟨ret_no HV hno, MW.out _ _ _⟩
  have D3 : decide ((64 : Int) < (old.size : Int)) = false := decide_eq_false (by omega)
  by_cases hF : 64 < fresh.size
  · have hno : ¬ May ⟨client, seq, kind, keys, old, fresh, n⟩ := fun h => by have := h.2.2.2.2.2.2.1; exact absurd hF (Nat.not_lt_of_le this)
    have D4 : decide ((64 : Int) < (fresh.size : Int)) = true := decide_eq_true (by omega)
    go_wp2_with fail
    go_ret
    exact ⟨ret_no HV hno, MW.out _ _ _⟩
  have D4 : decide ((64 : Int) < (fresh.size : Int)) = false := decide_eq_false (by omega)
  obtain ⟨oe, EO⟩ : ∃ b, old.toList.isEmpty = b := ⟨_, rfl⟩
  obtain ⟨fe, EF⟩ : ∃ b, fresh.toList.isEmpty = b := ⟨_, rfl⟩
  have HM : Hid (May ⟨client, seq, kind, keys, old, fresh, n⟩ ↔ (oe = true ∨ b5 = true) ∧ (fe = true ∨ (kind : Int) = 1 ∨ b5 = true) ∧ (n = 0 ∨ b4 = true)) := Lib.hid (by
    have h1 : (kind : Int) = 1 ↔ kind = 1 := by omega
    have h3 : oe = true ↔ old.size = 0 := by rw [← EO, isEmpty_iff]
    have h4 : fe = true ↔ fresh.size = 0 := by rw [← EF, isEmpty_iff]
    rw [h1, h3, h4, H5.out, H4.out]
    constructor
    · exact fun h => ⟨h.2.2.2.2.2.2.2.1, h.2.2.2.2.2.2.2.2.1, h.2.2.2.2.2.2.2.2.2⟩
    · exact fun h => ⟨⟨by show 1 ≤ kind; omega, by show kind ≤ 8; omega⟩, fun k hk => Decidable.byContradiction fun hn => HB.out ⟨k, hk, hn⟩, by show 0 < client; omega, by show least kind ≤ keys.length; rw [HLO.out]; omega, by show keys.length ≤ most kind; rw [HHI.out]; omega, by show old.size ≤ 64; omega, by show fresh.size ≤ 64; omega, h.1, h.2.1, h.2.2⟩)
  clear hL hM hO hF
  go_wp2_with fail
  all_goals go_ret
  all_goals first
    | (refine ⟨ret_yes HV (HM.out.2 ?_), MW.out _ _ _⟩; clear HV HM HK HT HLO HHI H5 H4 MW HB t0 t1 D1 D2 D3 D4 E0 E1 E2 EO EF; simp_all; done)
    | (refine ⟨ret_no HV (fun h => ?_), MW.out _ _ _⟩; have h9 := HM.out.1 h; clear HV HM HK HT HLO HHI H5 H4 MW HB t0 t1 D1 D2 D3 D4 E0 E1 E2 EO EF h; simp_all; done)
end Go.Proofs.YtaagfoeedngdjaaDoor
