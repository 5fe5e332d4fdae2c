/- The plain law of faults side by side: bits turned within 32 turn the checksum; the checksum is linear. No program in sight. -/
import Derived.Test.YtekdnljincbghaaDoorCrcLaw
namespace Go.Proofs.YtekdnljincbghaaDoor
open Go Go.RowKit

/-- Bit r of a row of bytes is turned. -/
def turnU (x : UInt8) (i : Nat) : UInt8 := UInt8.ofNat (x.toNat ^^^ 2 ^ i)
def flip (l : List UInt8) (r : Nat) : List UInt8 := l.modify (r / 8) (fun x => turnU x (r % 8))
def mbit (m k : Nat) : Bool := bits BinOp.and IntKind.u32 ((m : Int) / 2 ^ k) 1 == 1
def Xs (l : List UInt8) (p m : Nat) : Nat → List UInt8
  | 0 => l
  | k + 1 => if mbit m k = true then flip (Xs l p m k) (p + k) else Xs l p m k
def Cs (m : Nat) : Nat → Bool
  | 0 => false
  | k + 1 => if mbit m k = true then true else Cs m k
theorem flip_length (l : List UInt8) (r : Nat) : (flip l r).length = l.length := by simp [flip]
theorem Xs_length (l : List UInt8) (p m k : Nat) : (Xs l p m k).length = l.length := by
  induction k with
  | zero => rfl
  | succ k ih => unfold Xs; split; rw [flip_length, ih]; exact ih
theorem turnU_toNat (x : UInt8) (i : Nat) (h : i < 8) : (turnU x i).toNat = x.toNat ^^^ 2 ^ i := by
  unfold turnU
  rw [UInt8.toNat_ofNat']
  have h1 := x.toNat_lt
  have h2 : 2 ^ i < 2 ^ 8 := Nat.pow_lt_pow_right (by omega) h
  have := Nat.xor_lt_two_pow h1 h2
  exact Nat.mod_eq_of_lt this
/-- As the walk writes it. -/
theorem turn_walk (x : UInt8) (i : Nat) (h : i < 8) : bits BinOp.xor IntKind.u8 (x.toNat : Int) (IntKind.u8.wrap (2 ^ i)) = ((turnU x i).toNat : Int) := by
  have h2 : 2 ^ i < 256 := Nat.lt_of_lt_of_le (Nat.pow_lt_pow_right (by omega) h) (by omega)
  have e : IntKind.u8.wrap (2 ^ i) = ((2 ^ i : Nat) : Int) := by
    rw [IntKind.wrap_u8']
    have : ((2 : Int) ^ i) = ((2 ^ i : Nat) : Int) := by simp
    rw [this]
    generalize 2 ^ i = q at h2 ⊢
    omega
  rw [e, u8_xor_nat _ _ x.toNat_lt h2, turnU_toNat x i h]
theorem flip_set (l : List UInt8) (r : Nat) (h : r / 8 < l.length) : flip l r = l.set (r / 8) (turnU l[r / 8] (r % 8)) := by
  unfold flip
  apply List.ext_getElem?
  intro i
  rw [List.getElem?_modify, List.getElem?_set]
  by_cases e : r / 8 = i
  · subst e; simp [h]
  · simp [e]

theorem byteB_lin (a b : B32) (x : UInt8) : byteB (a ^^^ b) x = byteB a x ^^^ stn 8 b := by
  unfold byteB
  rw [show a ^^^ b ^^^ BitVec.ofNat 32 x.toNat = (a ^^^ BitVec.ofNat 32 x.toNat) ^^^ b by ac_rfl, stn_xor]
theorem foldB_lin (a b : B32) (l : List UInt8) : foldB (a ^^^ b) l = foldB a l ^^^ stn (8 * l.length) b := by
  induction l generalizing a b with
  | nil => simp [foldB, stn]
  | cons x l ih =>
    show foldB (byteB (a ^^^ b) x) l = foldB (byteB a x) l ^^^ _
    rw [byteB_lin, ih, ← stn_add]
    congr 2
    simp only [List.length_cons]; omega
theorem pow_stepC (i : Nat) (h : i < 8) : stn 8 (BitVec.ofNat 32 (2 ^ i)) = stn (8 - i) 1#32 := by
  have : ∀ n : Fin 8, stn 8 (BitVec.ofNat 32 (2 ^ n.val)) = stn (8 - n.val) 1#32 := by decide +kernel
  exact this ⟨i, h⟩
theorem ofNat_xor (a b : Nat) : BitVec.ofNat 32 (a ^^^ b) = BitVec.ofNat 32 a ^^^ BitVec.ofNat 32 b := by
  apply BitVec.eq_of_getLsbD_eq
  intro i hi
  simp [BitVec.getLsbD_xor, BitVec.getLsbD_ofNat, hi]
theorem byteB_turn (c : B32) (x : UInt8) (i : Nat) (h : i < 8) : byteB c (turnU x i) = byteB c x ^^^ stn (8 - i) 1#32 := by
  unfold byteB
  rw [turnU_toNat x i h, ofNat_xor, ← BitVec.xor_assoc, stn_xor, pow_stepC i h]
theorem foldB_flip (l : List UInt8) : ∀ (c : B32) (r : Nat), r < 8 * l.length → foldB c (flip l r) = foldB c l ^^^ stn (8 * l.length - r) 1#32 := by
  induction l with
  | nil => intro c r h; simp at h
  | cons x l ih =>
    intro c r h
    simp only [List.length_cons] at h ⊢
    by_cases h8 : r < 8
    · have e1 : r / 8 = 0 := by omega
      have e2 : r % 8 = r := by omega
      have e3 : flip (x :: l) r = turnU x r :: l := by unfold flip; rw [e1, e2]; rfl
      rw [e3]
      show foldB (byteB c (turnU x r)) l = foldB (byteB c x) l ^^^ _
      rw [byteB_turn c x r h8, foldB_lin, ← stn_add]
      congr 2
      omega
    · have e1 : r / 8 = (r - 8) / 8 + 1 := by omega
      have e2 : r % 8 = (r - 8) % 8 := by omega
      have e3 : flip (x :: l) r = x :: flip l (r - 8) := by unfold flip; rw [e1, e2]; rfl
      rw [e3]
      show foldB (byteB c x) (flip l (r - 8)) = foldB (byteB c x) l ^^^ _
      rw [ih _ _ (by omega)]
      congr 2
      omega

/-- The mask's first k bits. -/
def Ms (m : Nat) : Nat → B32
  | 0 => 0#32
  | k + 1 => if mbit m k = true then Ms m k ^^^ (1#32 <<< k) else Ms m k
theorem stn_one (k : Nat) (h : k < 32) : stn k (1#32 <<< k) = 1#32 := by
  have : ∀ n : Fin 32, stn n.val (1#32 <<< n.val) = 1#32 := by decide +kernel
  exact this ⟨k, h⟩
theorem fold_Xs (l : List UInt8) (p m : Nat) (c : B32) : ∀ k, k ≤ 32 → (k = 0 ∨ p + k ≤ 8 * l.length) → foldB c (Xs l p m k) = foldB c l ^^^ stn (8 * l.length - p) (Ms m k) := by
  intro k
  induction k with
  | zero => intro _ _; simp [Xs, Ms, stn_zero]
  | succ k ih =>
    intro h1 h2
    have h2' : p + k < 8 * l.length := by omega
    have ih' := ih (by omega) (by omega)
    unfold Xs Ms
    split
    · rw [foldB_flip _ _ _ (by rw [Xs_length]; omega), ih', Xs_length, stn_xor, BitVec.xor_assoc]
      congr 2
      rw [show 8 * l.length - p = k + (8 * l.length - (p + k)) by omega, stn_add, stn_one k (by omega)]
    · exact ih'
theorem Ms_bit (m : Nat) : ∀ k, k ≤ 32 → ∀ j, j < 32 → (Ms m k).getLsbD j = (decide (j < k) && mbit m j) := by
  intro k
  induction k with
  | zero => intro _ j hj; simp [Ms]
  | succ k ih =>
    intro hk j hj
    have ih' := ih (by omega) j hj
    unfold Ms
    have hb : (1#32 <<< k).getLsbD j = decide (j = k) := by
      simp only [BitVec.getLsbD_shiftLeft, hj, decide_true, Bool.true_and]
      by_cases h : j < k
      · have : ¬ j = k := by omega
        simp [h, this]
      · by_cases h' : j = k
        · subst h'; simp
        · have : j - k ≠ 0 := by omega
          simp [h, h', this]
    split
    · rename_i hm
      rw [BitVec.getLsbD_xor, ih', hb]
      by_cases h : j = k
      · subst h; simp [hm]
      · by_cases h' : j < k
        · have : j < k + 1 := by omega
          simp [h, h', this]
        · have : ¬ j < k + 1 := by omega
          simp [h, h', this]
    · rename_i hm
      rw [ih']
      by_cases h : j = k
      · subst h; simp at hm; simp [hm]
      · by_cases h' : j < k
        · have : j < k + 1 := by omega
          simp [h', this]
        · have : ¬ j < k + 1 := by omega
          simp [h', this]
theorem Cs_iff (m k : Nat) : Cs m k = false ↔ ∀ j, j < k → mbit m j = false := by
  induction k with
  | zero => simp [Cs]
  | succ k ih =>
    unfold Cs
    split
    · rename_i hm
      constructor
      · intro h; cases h
      · intro h; rw [h k (by omega)] at hm; cases hm
    · rename_i hm
      rw [ih]
      constructor
      · intro h j hj
        by_cases hjk : j = k
        · subst hjk; simpa using hm
        · exact h j (by omega)
      · intro h j hj; exact h j (by omega)
theorem Ms_zero (m k : Nat) (hk : k ≤ 32) : Ms m k = 0#32 ↔ Cs m k = false := by
  rw [Cs_iff]
  constructor
  · intro h j hj
    have := Ms_bit m k hk j (by omega)
    rw [h] at this
    simpa [hj] using this.symm
  · intro h
    apply BitVec.eq_of_getLsbD_eq
    intro j hj
    rw [Ms_bit m k hk j hj]
    by_cases hjk : j < k
    · simp [h j hjk]
    · simp [hjk]
/-- FAULTS WITHIN 32 BITS ARE FOUND. -/
theorem burst (l : List UInt8) (p m k : Nat) (hk : k ≤ 32) (hp : k = 0 ∨ p + k ≤ 8 * l.length) : (moreC T0 0 (Xs l p m k) != moreC T0 0 l) = Cs m k := by
  rw [sum_B T0 (fun _ _ => rfl), sum_B T0 (fun _ _ => rfl)]
  have hone : ∀ a b : B32, (ofB a != ofB b) = (a != b) := by
    intro a b
    rw [Bool.eq_iff_iff, bne_iff_ne, bne_iff_ne]
    constructor
    · intro h h'; exact h (by rw [h'])
    · intro h h'; exact h (by rw [← toB_ofB a, h', toB_ofB])
  rw [hone]
  unfold crcB
  rw [fold_Xs l p m _ k hk hp]
  cases hc : Cs m k with
  | false => rw [(Ms_zero m k hk).2 hc, stn_zero]; simp
  | true =>
    rw [bne_iff_ne]
    intro h
    have h1 : stn (8 * l.length - p) (Ms m k) = 0#32 := by
      have h2 := congrArg (fun z => (foldB 0xffffffff#32 l) ^^^ (z ^^^ 0xffffffff#32)) h
      have e1 : foldB 0xffffffff#32 l ^^^ (foldB 0xffffffff#32 l ^^^ stn (8 * l.length - p) (Ms m k) ^^^ 0xffffffff#32 ^^^ 0xffffffff#32) = stn (8 * l.length - p) (Ms m k) := by
        rw [BitVec.xor_assoc _ 0xffffffff#32, BitVec.xor_self, BitVec.xor_zero, ← BitVec.xor_assoc, BitVec.xor_self, BitVec.zero_xor]
      have e2 : foldB 0xffffffff#32 l ^^^ (foldB 0xffffffff#32 l ^^^ 0xffffffff#32 ^^^ 0xffffffff#32) = 0#32 := by
        rw [BitVec.xor_assoc _ 0xffffffff#32, BitVec.xor_self, BitVec.xor_zero, BitVec.xor_self]
      rw [← e1, ← e2]
      exact h2
    have := (Ms_zero m k hk).1 (stn_inj0 _ _ h1)
    rw [hc] at this; cases this

/-- Rows over one another. -/
def xorU (x y : UInt8) : UInt8 := UInt8.ofNat (x.toNat ^^^ y.toNat)
theorem xorU_toNat (x y : UInt8) : (xorU x y).toNat = x.toNat ^^^ y.toNat := by
  unfold xorU
  rw [UInt8.toNat_ofNat']
  exact Nat.mod_eq_of_lt (Nat.xor_lt_two_pow x.toNat_lt y.toNat_lt)
theorem xor_walk (x y : UInt8) : bits BinOp.xor IntKind.u8 (x.toNat : Int) (y.toNat : Int) = ((xorU x y).toNat : Int) := by
  rw [u8_xor_nat _ _ x.toNat_lt y.toNat_lt, xorU_toNat]
def zipX (a b : List UInt8) : List UInt8 := List.zipWith xorU a b
theorem foldB_zip (a : List UInt8) : ∀ (b : List UInt8) (c d e : B32), a.length = b.length →
    foldB c a ^^^ foldB d b ^^^ foldB e (List.replicate a.length 0) = foldB (c ^^^ d ^^^ e) (zipX a b) := by
  induction a with
  | nil => intro b c d e h; cases b with
    | nil => simp [foldB, zipX]
    | cons y b => simp at h
  | cons x a ih =>
    intro b c d e h
    cases b with
    | nil => simp at h
    | cons y b =>
      show foldB (byteB c x) a ^^^ foldB (byteB d y) b ^^^ foldB (byteB e 0) (List.replicate a.length 0) = foldB (byteB (c ^^^ d ^^^ e) (xorU x y)) (zipX a b)
      rw [ih b _ _ _ (by simpa using h)]
      congr 1
      unfold byteB
      rw [xorU_toNat, ofNat_xor, ← stn_xor, ← stn_xor]
      congr 1
      show _ ^^^ (e ^^^ BitVec.ofNat 32 0) = _
      have : BitVec.ofNat 32 0 = 0#32 := rfl
      rw [this, BitVec.xor_zero]
      ac_rfl
/-- SUMS OVER ONE ANOTHER. -/
theorem linear (a b : List UInt8) (h : a.length = b.length) :
    bits BinOp.xor IntKind.u32 (bits BinOp.xor IntKind.u32 (moreC T0 0 a) (moreC T0 0 b)) (moreC T0 0 (List.replicate a.length 0)) = moreC T0 0 (zipX a b) := by
  have hT : ∀ i, i < 16 → T0 i = T0 i := fun _ _ => rfl
  rw [sum_B T0 hT, sum_B T0 hT, sum_B T0 hT, sum_B T0 hT, bits_xor_B, bits_xor_B, toB_ofB, toB_ofB, toB_ofB, toB_ofB]
  congr 1
  unfold crcB
  have e := foldB_zip a b 0xffffffff#32 0xffffffff#32 0xffffffff#32 h
  have e1 : (0xffffffff#32 : B32) ^^^ 0xffffffff#32 ^^^ 0xffffffff#32 = 0xffffffff#32 := by decide
  rw [e1] at e
  rw [← e]
  generalize foldB 0xffffffff#32 a = A
  generalize foldB 0xffffffff#32 b = B
  generalize foldB 0xffffffff#32 (List.replicate a.length 0) = C
  have : A ^^^ 0xffffffff#32 ^^^ (B ^^^ 0xffffffff#32) ^^^ (C ^^^ 0xffffffff#32) = (A ^^^ B ^^^ C) ^^^ ((0xffffffff#32 : B32) ^^^ 0xffffffff#32 ^^^ 0xffffffff#32) := by ac_rfl
  rw [this, e1]
/-- The first k of n bytes laid over one another, then zeros. -/
def Zs (a b : List UInt8) (n k : Nat) : List UInt8 := zipX (a.take k) (b.take k) ++ List.replicate (n - k) 0
theorem Zs_length (a b : List UInt8) (n k : Nat) (ha : n ≤ a.length) (hb : n ≤ b.length) (hk : k ≤ n) : (Zs a b n k).length = n := by
  simp [Zs, zipX]; omega
theorem Zs_succ (a b : List UInt8) (n k : Nat) (ha : n ≤ a.length) (hb : n ≤ b.length) (hk : k < n) : (Zs a b n k).set k (xorU a[k] b[k]) = Zs a b n (k + 1) := by
  unfold Zs
  have hl : (zipX (a.take k) (b.take k)).length = k := by simp [zipX]; omega
  have e1 : zipX (a.take (k + 1)) (b.take (k + 1)) = zipX (a.take k) (b.take k) ++ [xorU a[k] b[k]] := by
    unfold zipX
    rw [take_snoc a k (by omega), take_snoc b k (by omega), List.zipWith_append (by simp; omega)]
    rfl
  rw [e1, List.set_append_right k _ (by omega), hl, Nat.sub_self]
  have e2 : List.replicate (n - k) (0 : UInt8) = 0 :: List.replicate (n - (k + 1)) 0 := by
    rw [show n - k = (n - (k + 1)) + 1 by omega]; rfl
  rw [e2, List.set_cons_zero, List.append_assoc]
  rfl
theorem Zs_all (a b : List UInt8) (n : Nat) : Zs a b n n = zipX (a.take n) (b.take n) := by simp [Zs]
theorem Zs_zero (a b : List UInt8) (n : Nat) : Zs a b n 0 = List.replicate n 0 := by simp [Zs, zipX]
end Go.Proofs.YtekdnljincbghaaDoor
