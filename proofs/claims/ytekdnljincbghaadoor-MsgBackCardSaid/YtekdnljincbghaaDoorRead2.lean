/- The walks of the varint package's reader: numbers and texts. -/
import Derived.Test.YtekdnljincbghaaDoorRead
import Derived.Test.YtekdnljincbghaaDoorEnc
namespace Go.Proofs.YtekdnljincbghaaDoor
open Go Go.RowKit

/-- What bytes are read as a number: k rounds are left, the i-th byte comes, n is what was read: the number, the error, what is left. -/
def uintR : Nat → Nat → Nat → List UInt8 → Nat × Int × List UInt8
  | 0, _, _, l => (0, 0, l)
  | _ + 1, _, _, [] => (0, 10, [])
  | k + 1, i, n, c :: r =>
    if (i = 9 ∧ 1 < c.toNat) ∨ (0 < i ∧ c.toNat = 0) then (0, 11, r)
    else if c.toNat < 128 then (n + c.toNat % 128 * 2 ^ (7 * i), 0, r)
    else uintR k (i + 1) (n + c.toNat % 128 * 2 ^ (7 * i)) r
def uintE (k i n : Nat) (e : Int) (l : List UInt8) : Nat × Int × List UInt8 := if e = 0 then uintR k i n l else (0, e, l)

theorem and127_all : ∀ n, n < 256 → bits .and .u8 ((n : Nat) : Int) 127 = ((n % 128 : Nat) : Int) := by decide +kernel
theorem or_walk (acc k : Nat) (c : UInt8) (ha : acc < 2 ^ (7 * k)) (hk : k ≤ 9) (h9 : k = 9 → c.toNat ≤ 1) :
    bits BinOp.or IntKind.u64 (acc : Int) (IntKind.u64.wrap (IntKind.u64.wrap (bits BinOp.and IntKind.u8 ((c.toNat : Nat) : Int) 127) * 2 ^ (7 * k))) = ((acc + c.toNat % 128 * 2 ^ (7 * k) : Nat) : Int) := by
  have hx : c.toNat % 128 < 128 := Nat.mod_lt _ (by omega)
  rw [and127_all _ c.toNat_lt, IntWalk.u64_in ((c.toNat % 128 : Nat) : Int) (by omega)]
  have hp : 2 ^ (7 * k) ≤ 2 ^ 63 := Nat.pow_le_pow_right (by omega) (by omega)
  have hb : c.toNat % 128 * 2 ^ (7 * k) < 18446744073709551616 := by
    by_cases h : k = 9
    · have h1 : c.toNat % 128 ≤ 1 := by have := h9 h; omega
      have := Nat.mul_le_mul h1 hp
      omega
    · have hp8 : 2 ^ (7 * k) ≤ 2 ^ 56 := Nat.pow_le_pow_right (by omega) (by omega)
      have := Nat.mul_le_mul (Nat.le_of_lt_succ hx) hp8
      omega
  have e : (((c.toNat % 128 : Nat) : Int) * 2 ^ (7 * k)) = ((c.toNat % 128 * 2 ^ (7 * k) : Nat) : Int) := by
    rw [Int.natCast_mul, Int.natCast_pow]; rfl
  rw [e, IntWalk.u64_in _ (by omega), bits_or_u64_nat _ _ (by omega) hb]
  have := Nat.shiftLeft_add_eq_or_of_lt ha (c.toNat % 128)
  rw [Nat.shiftLeft_eq] at this
  rw [Nat.or_comm, ← this, Nat.add_comm]
theorem acc_next (acc k : Nat) (c : UInt8) (ha : acc < 2 ^ (7 * k)) : acc + c.toNat % 128 * 2 ^ (7 * k) < 2 ^ (7 * (k + 1)) := by
  have hx : c.toNat % 128 ≤ 127 := by omega
  have h1 := Nat.mul_le_mul_right (2 ^ (7 * k)) hx
  have h2 : 2 ^ (7 * (k + 1)) = 128 * 2 ^ (7 * k) := by rw [Nat.mul_add, Nat.pow_add, Nat.mul_comm]
  omega
theorem uintE_end (k i n : Nat) : uintE (k + 1) i n 0 [] = (0, 10, []) := rfl
theorem uintE_bad (k i n : Nat) (c : UInt8) (r : List UInt8) (h : (i = 9 ∧ 1 < c.toNat) ∨ (0 < i ∧ c.toNat = 0)) : uintE (k + 1) i n 0 (c :: r) = (0, 11, r) := by simp [uintE, uintR, h]
theorem uintE_last (k i n : Nat) (c : UInt8) (r : List UInt8) (h1 : ¬ (i = 9 ∧ 1 < c.toNat)) (h2 : ¬ (0 < i ∧ c.toNat = 0)) (h3 : c.toNat < 128) : uintE (k + 1) i n 0 (c :: r) = (n + c.toNat % 128 * 2 ^ (7 * i), 0, r) := by
  have h : ¬ ((i = 9 ∧ 1 < c.toNat) ∨ (0 < i ∧ c.toNat = 0)) := fun h => h.elim h1 h2
  simp only [uintE, uintR, if_true, if_neg h, if_pos h3]
theorem uintE_more (k i n : Nat) (c : UInt8) (r : List UInt8) (h1 : ¬ (i = 9 ∧ 1 < c.toNat)) (h2 : ¬ (0 < i ∧ c.toNat = 0)) (h3 : ¬ c.toNat < 128) : uintE (k + 1) i n 0 (c :: r) = uintE k (i + 1) (n + c.toNat % 128 * 2 ^ (7 * i)) 0 r := by
  have h : ¬ ((i = 9 ∧ 1 < c.toNat) ∨ (0 < i ∧ c.toNat = 0)) := fun h => h.elim h1 h2
  simp only [uintE, uintR, if_true, if_neg h, if_neg h3]
theorem uintE_err (k i n : Nat) (e : Int) (l : List UInt8) (h : e ≠ 0) : uintE k i n e l = (0, e, l) := by simp [uintE, h]

set_option maxRecDepth 100000 in
set_option maxHeartbeats 1000000 in
theorem ruint_any (g : Nat) (bs : List Nat) (e : Int) (l : List UInt8) (lim : Int) (w : World) (h : Rd w g bs e l lim) :
    Calls Tryd.prog 40 #[.pointer (some ⟨g, 0, none⟩)] w fun r w' => r = .returned (.int .u64 ((uintE 10 0 0 e l).1 : Int)) ∧ Rd w' g bs (uintE 10 0 0 e l).2.1 (uintE 10 0 0 e l).2.2 lim ∧ Mod [g] w w' := by
  have H := Lib.hid h
  clear h
  go_enter Tryd.func40, Tryd.ntmps40
  go_wp2
  go_loopw [3, 4] (fun n i wr => ∃ (k acc : Nat) (l' : List UInt8), k ≤ 10 ∧ acc < 2 ^ (7 * k) ∧ n = .int .u64 (acc : Int) ∧ i = .int .i64 (k : Int) ∧ Rd wr g bs e l' lim ∧ Mod [g] w wr ∧ uintE 10 0 0 e l = uintE (10 - k) k acc e l') (fun _ i _ => 10 - (intOf i).toNat)
  case atStart => exact ⟨0, 0, l, by omega, by decide, rfl, rfl, H.out, Mod.refl _ _, rfl⟩
  case round =>
    obtain ⟨k, acc, l', hk, hacc, rfl, rfl, hr, hm, hu⟩ := hrel
    have HR := Lib.hid hr
    have HM := Lib.hid hm
    have HU := Lib.hid hu
    have HA := Lib.hid hacc
    clear hr hm hu hacc H
    by_cases hlt : k < 10
    · go_wp2_with fail
      refine (byte_any g bs e l' lim _ HR.out).mono ?_
      rintro e1 w1 ⟨rfl, hr1, hm1⟩
      have HR1 := Lib.hid hr1
      have HM1 := Lib.hid (HM.out.trans' hm1)
      clear hr1 hm1 HR HM
      go_wp2_with fail
      refine (err_any g bs _ _ lim _ HR1.out).mono ?_
      rintro e2 w2 ⟨rfl, rfl⟩
      by_cases he : e = 0
      · subst he
        have e10 : 10 - k = (9 - k) + 1 := by omega
        rw [e10] at HU
        cases l' with
        | nil =>
          simp only [byteR, if_true] at *
          have hu := HU.out
          rw [uintE_end] at hu
          have HV := Lib.hid hu
          clear hu
          go_wp2
          go_ret
          rw [HV.out]
          exact ⟨rfl, HR1.out, HM1.out⟩
        | cons c r =>
          simp only [byteR, if_true] at *
          have hc1 := toNat_lt c
          have hc0 : (0 : Int) ≤ ((c.toNat : Nat) : Int) := by omega
          obtain ⟨ao2, cap2, f0, _, _, fr, _⟩ := HR1.out.open
          have fr0 := fr 0
          clear fr
          by_cases hA : k = 9 ∧ 1 < c.toNat
          · have hu := HU.out
            rw [uintE_bad _ _ _ _ _ (.inl hA)] at hu
            have HV := Lib.hid hu
            obtain ⟨rfl, hc⟩ := hA
            have hc' : (1 : Int) < ((c.toNat : Nat) : Int) := by omega
            clear hu
            go_wp2_with (go_at_call 61; refine (fail_any g 0 11 _ f0 fr0).mono ?_; rintro e w1 ⟨⟨v, rfl⟩, rfl⟩)
            go_ret
            rw [HV.out]
            exact ⟨rfl, HR1.out.err 11, HM1.out.trans' (Mod.setCell _ _ _ (by simp))⟩
          by_cases hB : 0 < k ∧ c.toNat = 0
          · have hu := HU.out
            rw [uintE_bad _ _ _ _ _ (.inr hB)] at hu
            have HV := Lib.hid hu
            obtain ⟨hk0, hc⟩ := hB
            have hc' : ((c.toNat : Nat) : Int) = 0 := by omega
            rw [hc'] at *
            clear hu
            go_wp2_with (go_at_call 61; refine (fail_any g 0 11 _ f0 fr0).mono ?_; rintro e w1 ⟨⟨v, rfl⟩, rfl⟩)
            all_goals go_ret
            all_goals rw [HV.out]
            all_goals exact ⟨rfl, HR1.out.err 11, HM1.out.trans' (Mod.setCell _ _ _ (by simp))⟩
          have hE := or_walk acc k c HA.out (by omega) (by omega)
          have HE := Lib.hid hE
          have hz : 0 < k → ((c.toNat : Nat) : Int) ≠ 0 := by omega
          have hz2 : 0 < k → (((c.toNat : Nat) : Int) == 0) = false := by intro h; simpa using hz h
          have h9 : k = 9 → ¬ (1 < ((c.toNat : Nat) : Int)) := by omega
          clear hE
          by_cases hC : c.toNat < 128
          · have hC' : ((c.toNat : Nat) : Int) < 128 := by omega
            have hu := HU.out
            rw [uintE_last _ _ _ _ _ hA hB hC] at hu
            have HV := Lib.hid hu
            clear hu
            have HA' := Lib.hid hA
            have HB' := Lib.hid hB
            clear hA hB
            go_wp2
            all_goals go_ret
            all_goals rw [HE.out, HV.out]
            all_goals exact ⟨rfl, HR1.out, HM1.out⟩
          · have hu := HU.out
            rw [uintE_more _ _ _ _ _ hA hB hC] at hu
            have HU2 := Lib.hid hu
            have hC' : ¬ ((c.toNat : Nat) : Int) < 128 := by omega
            have hk8 : k < 9 := by omega
            clear hu
            have HA' := Lib.hid hA
            have HB' := Lib.hid hB
            clear hA hB
            go_wp2
            all_goals go_roundw
            all_goals first
              | exact ⟨k + 1, _, r, by omega, acc_next acc k c HA.out, by rw [HE.out], by go_num, HR1.out, HM1.out, by rw [HU2.out]; congr 1; omega⟩
              | (simp [intOf]; omega)
      · have hb : byteR e l' = (0, e, l') := by cases l' <;> simp [byteR, he]
        have hr1 := HR1.out
        rw [hb] at hr1
        have HR2 := Lib.hid hr1
        clear hr1 HR1
        simp only [hb]
        have hu := HU.out
        rw [uintE_err _ _ _ _ _ he, uintE_err _ _ _ _ _ he] at hu
        simp only [Prod.mk.injEq, true_and] at hu
        obtain rfl := hu
        clear HU
        go_wp2
        go_ret
        rw [uintE_err _ _ _ _ _ he]
        exact ⟨rfl, HR2.out, HM1.out⟩
    · have hk10 : k = 10 := by omega
      subst hk10
      have hu := HU.out
      have he0 : uintE (10 - 10) 10 acc e l' = (0, e, l') := by
        by_cases he : e = 0
        · subst he; rfl
        · exact uintE_err _ _ _ _ _ he
      rw [he0] at hu
      have HV := Lib.hid hu
      clear hu he0
      go_wp2
      go_ret
      rw [HV.out]
      exact ⟨rfl, HR.out, HM.out⟩
end Go.Proofs.YtekdnljincbghaaDoor
