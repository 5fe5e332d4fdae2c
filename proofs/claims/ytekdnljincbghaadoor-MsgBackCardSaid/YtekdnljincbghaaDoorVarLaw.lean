/- Plain laws: what is written is read, what is read is written. No program in sight. -/
import Derived.Test.YtekdnljincbghaaDoorRead3
namespace Go.Proofs.YtekdnljincbghaaDoor
open Go Go.RowKit

theorem pow_step (i : Nat) : 2 ^ (7 * (i + 1)) = 128 * 2 ^ (7 * i) := by rw [Nat.mul_add, Nat.pow_add, Nat.mul_comm]
theorem pow_back (i : Nat) (h : i ≤ 8) : 2 ^ (64 - 7 * i) = 128 * 2 ^ (64 - 7 * (i + 1)) := by
  have : 64 - 7 * i = 7 + (64 - 7 * (i + 1)) := by omega
  rw [this, Nat.pow_add]
theorem toNat_of (n : Nat) (h : n < 256) : (UInt8.ofNat n).toNat = n := by rw [UInt8.toNat_ofNat']; omega

theorem uintR_write (k : Nat) : ∀ (i acc v : Nat) (rest : List UInt8), i + k + 1 = 10 → v < 2 ^ (64 - 7 * i) → (0 < i → 0 < v) →
    uintR (k + 1) i acc (enc7 v ++ rest) = (acc + v * 2 ^ (7 * i), 0, rest) := by
  induction k with
  | zero =>
    intro i acc v rest hi hv h0
    have hi9 : i = 9 := by omega
    subst hi9
    have hv2 : v < 2 := by simpa using hv
    rw [enc7_small v (by omega)]
    have hn := toNat_of v (by omega)
    have := h0 (by omega)
    simp only [List.singleton_append, uintR, hn]
    rw [if_neg (by omega), if_pos (by omega), Nat.mod_eq_of_lt (by omega)]
  | succ k ih =>
    intro i acc v rest hi hv h0
    by_cases hs : v < 128
    · rw [enc7_small v hs]
      have hn := toNat_of v (by omega)
      simp only [List.singleton_append, uintR, hn]
      rw [if_neg (by rintro (⟨h, _⟩ | ⟨h, h2⟩); omega; have := h0 h; omega), if_pos hs, Nat.mod_eq_of_lt (by omega)]
    · have h64 : v < 18446744073709551616 := by
        have : 2 ^ (64 - 7 * i) ≤ 2 ^ 64 := Nat.pow_le_pow_right (by omega) (by omega)
        omega
      rw [enc7_big v (by omega) h64, List.cons_append]
      have hn := toNat_of (128 + v % 128) (by omega)
      have hu : uintR (k + 1 + 1) i acc (UInt8.ofNat (128 + v % 128) :: (enc7 (v / 128) ++ rest)) = uintR (k + 1) (i + 1) (acc + v % 128 * 2 ^ (7 * i)) (enc7 (v / 128) ++ rest) := by
        rw [uintR, hn, if_neg (by omega), if_neg (by omega), Nat.add_mod_left, Nat.mod_mod]
      have hb := pow_back i (by omega)
      rw [hu, ih (i + 1) _ (v / 128) rest (by omega) (by omega) (by omega), pow_step]
      have e : v % 128 * 2 ^ (7 * i) + v / 128 * (128 * 2 ^ (7 * i)) = v * 2 ^ (7 * i) := by
        rw [← Nat.mul_assoc, ← Nat.add_mul]
        congr 1
        omega
      rw [Nat.add_assoc, e]
theorem uintE_write (v : Nat) (rest : List UInt8) (h : v < 18446744073709551616) : uintE 10 0 0 0 (enc7 v ++ rest) = (v, 0, rest) := by
  have := uintR_write 9 0 0 v rest rfl (by simpa using h) (by omega)
  simpa [uintE] using this

theorem uintR_read (k : Nat) : ∀ (i acc n : Nat) (l r : List UInt8), i + k + 1 = 10 → uintR (k + 1) i acc l = (n, 0, r) →
    ∃ v, v < 2 ^ (64 - 7 * i) ∧ (0 < i → 0 < v) ∧ n = acc + v * 2 ^ (7 * i) ∧ l = enc7 v ++ r := by
  induction k with
  | zero =>
    intro i acc n l r hi h
    have hi9 : i = 9 := by omega
    subst hi9
    cases l with
    | nil => simp [uintR] at h
    | cons c l =>
      rw [uintR] at h
      split at h
      · simp at h
      · rename_i hbad
        split at h
        · simp only [Prod.mk.injEq, true_and] at h
          obtain ⟨rfl, rfl⟩ := h
          refine ⟨c.toNat, by simp; omega, by omega, ?_, ?_⟩
          · rw [Nat.mod_eq_of_lt (by omega)]
          · rw [enc7_small _ (by omega)]; simp
        · exfalso; omega
  | succ k ih =>
    intro i acc n l r hi h
    cases l with
    | nil => simp [uintR] at h
    | cons c l =>
      rw [uintR] at h
      split at h
      · simp at h
      · rename_i hbad
        have hb := pow_back i (by omega)
        have hpos : 0 < 2 ^ (64 - 7 * (i + 1)) := Nat.pow_pos (by omega)
        split at h
        · rename_i h128
          simp only [Prod.mk.injEq, true_and] at h
          obtain ⟨rfl, rfl⟩ := h
          refine ⟨c.toNat, by omega, by omega, ?_, ?_⟩
          · rw [Nat.mod_eq_of_lt h128]
          · rw [enc7_small _ h128]; simp
        · rename_i h128
          obtain ⟨v, hv, h0, rfl, rfl⟩ := ih _ _ _ _ _ (by omega) h
          have hc := c.toNat_lt
          have hv0 := h0 (by omega)
          have hp := pow_step i
          refine ⟨c.toNat % 128 + 128 * v, by omega, by omega, ?_, ?_⟩
          · rw [hp, Nat.add_mul, Nat.add_assoc]
            congr 2
            rw [Nat.mul_comm 128 v, Nat.mul_assoc]
          · have h64 : c.toNat % 128 + 128 * v < 18446744073709551616 := by
              have : 2 ^ (64 - 7 * i) ≤ 2 ^ 64 := Nat.pow_le_pow_right (by omega) (by omega)
              omega
            have e1 : (c.toNat % 128 + 128 * v) / 128 = v := by omega
            have e2 : 128 + (c.toNat % 128 + 128 * v) % 128 = c.toNat := by omega
            rw [enc7_big _ (by omega) h64, e1, e2]
            simp
theorem uintE_read (n : Nat) (l r : List UInt8) (h : uintE 10 0 0 0 l = (n, 0, r)) : l = enc7 n ++ r := by
  obtain ⟨v, _, _, h1, h2⟩ := uintR_read 9 0 0 n l r rfl (by simpa [uintE] using h)
  simp at h1
  rw [h1]; exact h2
theorem enc7_inj (n m : Nat) (hn : n < 18446744073709551616) (hm : m < 18446744073709551616) (h : enc7 n = enc7 m) : n = m := by
  have h1 := uintE_write n [] hn
  have h2 := uintE_write m [] hm
  rw [h, h2] at h1
  simp at h1
  exact h1.symm
theorem zag_zig (m : Int) : zag (zig m) = m := by
  unfold zag zig
  split <;> split <;> omega
/-- A text that is written, read. -/
theorem textR_write (lim : Int) (t rest : List UInt8) (h : (t.length : Int) ≤ lim) (h2 : t.length < 18446744073709551616) : textR lim 0 (enc7 t.length ++ t ++ rest) = (t, 0, rest) := by
  unfold textR
  rw [List.append_assoc, uintE_write _ _ h2]
  simp only [ne_eq, not_true_eq_false, if_false]
  rw [if_neg (by omega), if_neg (by simp)]
  simp
/-- Without its last byte. -/
theorem textR_short (lim : Int) (t : List UInt8) (h : (t.length : Int) ≤ lim) (h2 : t.length < 18446744073709551616) : (textR lim 0 (enc7 t.length ++ t).dropLast).2.1 = 10 := by
  by_cases ht : t = []
  · subst ht
    have : (enc7 ([] : List UInt8).length ++ []).dropLast = [] := by decide
    rw [this]
    rfl
  · have e : (enc7 t.length ++ t).dropLast = enc7 t.length ++ t.dropLast := by rw [List.dropLast_append_of_ne_nil ht]
    have hp : 0 < t.length := List.length_pos_iff.2 ht
    unfold textR
    rw [e, uintE_write _ _ h2]
    simp only [ne_eq, not_true_eq_false, if_false]
    rw [if_neg (by omega), if_pos (by simp; omega)]
end Go.Proofs.YtekdnljincbghaaDoor
