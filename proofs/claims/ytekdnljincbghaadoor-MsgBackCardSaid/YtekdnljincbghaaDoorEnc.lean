/- Numbers as bytes of 7 bits: the plain function that both texts compute. No program in sight. -/
import Derived.Test.YtekdnljincbghaaDoorBase
namespace Go.Proofs.YtekdnljincbghaaDoor
open Go Go.RowKit

/-- A number's bytes, with fuel. -/
def encF : Nat → Nat → List UInt8
  | 0, n => [UInt8.ofNat n]
  | f + 1, n => if n < 128 then [UInt8.ofNat n] else UInt8.ofNat (128 + n % 128) :: encF f (n / 128)
def enc7 (n : Nat) : List UInt8 := encF 10 n
theorem encF_stable (f : Nat) : ∀ n, n < 128 ^ (f + 1) → encF (f + 1) n = encF f n := by
  induction f with
  | zero => intro n h; simp [encF]; omega
  | succ f ih =>
    intro n h
    show (if n < 128 then _ else UInt8.ofNat (128 + n % 128) :: encF (f + 1) (n / 128)) = (if n < 128 then _ else UInt8.ofNat (128 + n % 128) :: encF f (n / 128))
    split
    · rfl
    · rw [ih (n / 128) (by rw [Nat.div_lt_iff_lt_mul (by omega)]; rwa [Nat.pow_succ] at h)]
theorem enc7_small (n : Nat) (h : n < 128) : enc7 n = [UInt8.ofNat n] := by simp [enc7, encF, h]
theorem enc7_big (n : Nat) (h : 128 ≤ n) (h64 : n < 18446744073709551616) : enc7 n = UInt8.ofNat (128 + n % 128) :: enc7 (n / 128) := by
  show (if n < 128 then _ else UInt8.ofNat (128 + n % 128) :: encF 9 (n / 128)) = _
  rw [if_neg (by omega)]
  show _ = _ :: encF 10 (n / 128)
  rw [encF_stable 9 (n / 128) (by simp only [Nat.reduceAdd, Nat.reducePow]; omega)]
theorem encF_length (f : Nat) : ∀ n, 1 ≤ (encF f n).length ∧ (encF f n).length ≤ f + 1 := by
  induction f with
  | zero => intro n; simp [encF]
  | succ f ih =>
    intro n
    unfold encF
    split
    · simp
    · have := ih (n / 128); simp only [List.length_cons]; omega
theorem enc7_length (n : Nat) : 1 ≤ (enc7 n).length ∧ (enc7 n).length ≤ 11 := encF_length 10 n

/-- The groups that the iterator hands on: 7 bits, and whether they are the last. -/
def grpF : Nat → Nat → List (UInt8 × Bool)
  | 0, n => [(UInt8.ofNat n, true)]
  | f + 1, n => if n < 128 then [(UInt8.ofNat n, true)] else (UInt8.ofNat (n % 128), false) :: grpF f (n / 128)
def grp (n : Nat) : List (UInt8 × Bool) := grpF 10 n
def grpB (x : UInt8 × Bool) : UInt8 := if x.2 = true then x.1 else UInt8.ofNat (128 + x.1.toNat)
theorem grpF_stable (f : Nat) : ∀ n, n < 128 ^ (f + 1) → grpF (f + 1) n = grpF f n := by
  induction f with
  | zero => intro n h; simp [grpF]; omega
  | succ f ih =>
    intro n h
    show (if n < 128 then _ else (UInt8.ofNat (n % 128), false) :: grpF (f + 1) (n / 128)) = (if n < 128 then _ else (UInt8.ofNat (n % 128), false) :: grpF f (n / 128))
    split
    · rfl
    · rw [ih (n / 128) (by rw [Nat.div_lt_iff_lt_mul (by omega)]; rwa [Nat.pow_succ] at h)]
theorem grp_small (n : Nat) (h : n < 128) : grp n = [(UInt8.ofNat n, true)] := by simp [grp, grpF, h]
theorem grp_big (n : Nat) (h : 128 ≤ n) (h64 : n < 18446744073709551616) : grp n = (UInt8.ofNat (n % 128), false) :: grp (n / 128) := by
  show (if n < 128 then _ else (UInt8.ofNat (n % 128), false) :: grpF 9 (n / 128)) = _
  rw [if_neg (by omega)]
  show _ = _ :: grpF 10 (n / 128)
  rw [grpF_stable 9 (n / 128) (by simp only [Nat.reduceAdd, Nat.reducePow]; omega)]
theorem grpF_enc (f : Nat) : ∀ n, n < 128 ^ (f + 1) → (grpF f n).map grpB = encF f n := by
  induction f with
  | zero => intro n h; simp [grpF, encF, grpB]
  | succ f ih =>
    intro n h
    unfold grpF encF
    split
    · simp [grpB]
    · rw [List.map_cons, ih (n / 128) (by rw [Nat.div_lt_iff_lt_mul (by omega)]; rwa [Nat.pow_succ] at h)]
      have : grpB (UInt8.ofNat (n % 128), false) = UInt8.ofNat (128 + n % 128) := by
        have e : (UInt8.ofNat (n % 128)).toNat = n % 128 := by rw [UInt8.toNat_ofNat']; omega
        simp only [grpB, e]; rfl
      rw [this]
theorem grp_enc (n : Nat) (h64 : n < 18446744073709551616) : (grp n).map grpB = enc7 n := grpF_enc 10 n (by simp only [Nat.reduceAdd, Nat.reducePow]; omega)
theorem grp_length (n : Nat) (h64 : n < 18446744073709551616) : (grp n).length = (enc7 n).length := by rw [← grp_enc n h64]; simp
theorem grpF_wf (f : Nat) : ∀ n, n < 128 ^ (f + 1) → ∀ x ∈ grpF f n, x.1.toNat < 128 := by
  induction f with
  | zero => intro n h x hx; simp [grpF] at hx; subst hx; simp at h; show (UInt8.ofNat n).toNat < 128; rw [UInt8.toNat_ofNat']; omega
  | succ f ih =>
    intro n h x hx
    unfold grpF at hx
    split at hx
    · simp at hx; subst hx; show (UInt8.ofNat n).toNat < 128; rw [UInt8.toNat_ofNat']; omega
    · rcases List.mem_cons.1 hx with rfl | hx
      · show (UInt8.ofNat (n % 128)).toNat < 128; rw [UInt8.toNat_ofNat']; omega
      · exact ih (n / 128) (by rw [Nat.div_lt_iff_lt_mul (by omega)]; rwa [Nat.pow_succ] at h) x hx
theorem grp_wf (n : Nat) (h64 : n < 18446744073709551616) : ∀ x ∈ grp n, x.1.toNat < 128 := grpF_wf 10 n (by simp only [Nat.reduceAdd, Nat.reducePow]; omega)

/-- A signed number, as a number from 0 on. -/
def zig (m : Int) : Nat := if 0 ≤ m then (2 * m).toNat else (-2 * m - 1).toNat
theorem zig_pos (m : Int) (h : 0 ≤ m) : zig m = (2 * m).toNat := if_pos h
theorem zig_neg (m : Int) (h : m < 0) : zig m = (-2 * m - 1).toNat := if_neg (by omega)
theorem zig_lt (m : Int) (h1 : -9223372036854775808 ≤ m) (h2 : m ≤ 9223372036854775807) : zig m < 18446744073709551616 := by
  unfold zig; split <;> omega
theorem xor_ones64 (n : Nat) (h : n < 18446744073709551616) : bits .xor .u64 (n : Int) 18446744073709551615 = ((18446744073709551615 - n : Nat) : Int) := by
  show IntKind.u64.wrap ((BitVec.ofInt 64 (n : Int) ^^^ BitVec.ofInt 64 18446744073709551615).toNat : Int) = _
  have e1 : BitVec.ofInt 64 18446744073709551615 = BitVec.allOnes 64 := by decide
  have e2 : BitVec.ofInt 64 (n : Int) = BitVec.ofNat 64 n := BitVec.ofInt_natCast 64 n
  rw [e1, e2, BitVec.xor_allOnes, BitVec.toNat_not, BitVec.toNat_ofNat, Nat.mod_eq_of_lt (by simpa using h)]
  rw [IntWalk.u64_in _ (by omega)]
/-- As the walk writes it. -/
theorem zig_walk (m : Int) (h1 : -9223372036854775808 ≤ m) (h2 : m ≤ 9223372036854775807) :
    bits BinOp.xor IntKind.u64 (IntKind.u64.wrap (IntKind.u64.wrap m * 2)) (IntKind.u64.wrap (m / 9223372036854775808)) = ((zig m : Nat) : Int) := by
  by_cases h0 : 0 ≤ m
  · have e1 : m / 9223372036854775808 = 0 := by omega
    have e2 : IntKind.u64.wrap m = m := IntWalk.u64_in _ (by omega)
    have e3 : IntKind.u64.wrap (m * 2) = ((zig m : Nat) : Int) := by rw [IntWalk.u64_in _ (by omega), zig_pos m h0]; omega
    have e4 : IntKind.u64.wrap 0 = ((0 : Nat) : Int) := by decide
    rw [e1, e2, e3, e4, u64_xor_nat _ _ (zig_lt m h1 h2) (by omega), Nat.xor_zero]
  · have e1 : m / 9223372036854775808 = -1 := by omega
    have e2 : IntKind.u64.wrap m = m + 18446744073709551616 := by rw [IntKind.wrap_u64]; omega
    have e3 : IntKind.u64.wrap ((m + 18446744073709551616) * 2) = (((2 * m + 18446744073709551616).toNat : Nat) : Int) := by rw [IntKind.wrap_u64]; omega
    have e4 : IntKind.u64.wrap (-1) = 18446744073709551615 := by decide
    rw [e1, e2, e3, e4, xor_ones64 _ (by omega), zig_neg m (by omega)]
    omega
end Go.Proofs.YtekdnljincbghaaDoor
