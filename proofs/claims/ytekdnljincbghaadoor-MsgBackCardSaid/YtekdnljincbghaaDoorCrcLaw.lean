/- The plain law of the checksum: the table's four bits at a time are the reference's bit by bit; the fold is linear; a fault within 32 bits turns it. No program in sight. -/
import Derived.Test.YtekdnljincbghaaDoorCrc
import Derived.Test.YtekdnljincbghaaDoorCrcRef
namespace Go.Proofs.YtekdnljincbghaaDoor
open Go Go.RowKit

abbrev B32 := BitVec 32
def poly : B32 := 0x82f63b78#32
def st1 (c : B32) : B32 := (c >>> 1) ^^^ (if c.getLsbD 0 then poly else 0#32)
def stn : Nat → B32 → B32
  | 0, c => c
  | n + 1, c => st1 (stn n c)

theorem st1_zero : st1 0#32 = 0#32 := by decide
theorem st1_xor (a b : B32) : st1 (a ^^^ b) = st1 a ^^^ st1 b := by
  unfold st1
  rw [BitVec.ushiftRight_xor_distrib, BitVec.getLsbD_xor]
  cases a.getLsbD 0 <;> cases b.getLsbD 0 <;> simp only [Bool.xor_false, Bool.xor_true, Bool.not_false, Bool.not_true, if_true, Bool.false_eq_true, if_false, BitVec.xor_zero]
  · ac_rfl
  · rw [BitVec.xor_assoc (a >>> 1) poly, BitVec.xor_comm poly (b >>> 1), BitVec.xor_assoc]
  · have : a >>> 1 ^^^ poly ^^^ (b >>> 1 ^^^ poly) = (a >>> 1 ^^^ b >>> 1) ^^^ (poly ^^^ poly) := by ac_rfl
    rw [this, BitVec.xor_self, BitVec.xor_zero]
theorem stn_zero (n : Nat) : stn n 0#32 = 0#32 := by
  induction n with
  | zero => rfl
  | succ n ih => show st1 (stn n 0#32) = _; rw [ih, st1_zero]
theorem stn_xor (n : Nat) (a b : B32) : stn n (a ^^^ b) = stn n a ^^^ stn n b := by
  induction n with
  | zero => rfl
  | succ n ih => show st1 (stn n _) = st1 (stn n a) ^^^ st1 (stn n b); rw [ih, st1_xor]
theorem stn_add (m n : Nat) (a : B32) : stn (m + n) a = stn n (stn m a) := by
  induction n with
  | zero => rfl
  | succ n ih => show st1 (stn (m + n) a) = st1 (stn n (stn m a)); rw [ih]
theorem st1_shift (c : B32) (h : c.getLsbD 0 = false) : st1 c = c >>> 1 := by
  unfold st1; rw [h]; simp
/-- The lowest n bits none: n steps are a shift. -/
theorem stn_shift (n : Nat) (c : B32) (h : ∀ i, i < n → c.getLsbD i = false) : stn n c = c >>> n := by
  induction n with
  | zero => simp [stn]
  | succ n ih =>
    show st1 (stn n c) = _
    rw [ih (fun i hi => h i (by omega)), st1_shift _ (by rw [BitVec.getLsbD_ushiftRight]; exact h _ (by omega)), ← BitVec.shiftRight_add]
theorem st1_inj0 (c : B32) (h : st1 c = 0#32) : c = 0#32 := by
  have h31 := congrArg (fun x : B32 => x.getLsbD 31) h
  unfold st1 at h h31
  cases h0 : c.getLsbD 0 with
  | true =>
    rw [h0] at h31
    simp [BitVec.getLsbD_xor, BitVec.getLsbD_ushiftRight, poly] at h31
  | false =>
    rw [h0] at h
    simp only [Bool.false_eq_true, if_false, BitVec.xor_zero] at h
    apply BitVec.eq_of_getLsbD_eq
    intro i hi
    rcases i with _ | i
    · simpa using h0
    · have := congrArg (fun x : B32 => x.getLsbD i) h
      simp only [BitVec.getLsbD_ushiftRight, BitVec.getLsbD_zero] at this
      rw [show i + 1 = 1 + i by omega, this]; simp
theorem stn_inj0 (n : Nat) (c : B32) (h : stn n c = 0#32) : c = 0#32 := by
  induction n generalizing c with
  | zero => exact h
  | succ n ih => exact ih c (st1_inj0 _ h)

/-- The words of the walks, as bits. -/
def toB (c : Int) : B32 := BitVec.ofInt 32 c
def ofB (b : B32) : Int := (b.toNat : Int)
theorem toB_ofB (b : B32) : toB (ofB b) = b := by
  unfold toB ofB; rw [BitVec.ofInt_natCast]; simp
theorem ofB_toB (c : Int) (h : 0 ≤ c ∧ c < 4294967296) : ofB (toB c) = c := by
  obtain ⟨n, rfl⟩ := Int.eq_ofNat_of_zero_le h.1
  unfold toB ofB; rw [BitVec.ofInt_natCast, BitVec.toNat_ofNat]; omega
theorem ofB_lo (b : B32) : 0 ≤ ofB b ∧ ofB b < 4294967296 := by unfold ofB; have := b.isLt; omega
theorem bits_xor_B (a b : Int) : bits .xor .u32 a b = ofB (toB a ^^^ toB b) := by
  have := (toB a ^^^ toB b).isLt
  show IntKind.u32.wrap ((BitVec.ofInt 32 a ^^^ BitVec.ofInt 32 b).toNat : Int) = _
  rw [IntKind.wrap_u32']
  show ((toB a ^^^ toB b).toNat : Int) % 4294967296 = _
  unfold ofB; omega
theorem bits_and_B (a b : Int) : bits .and .u32 a b = ofB (toB a &&& toB b) := by
  have := (toB a &&& toB b).isLt
  show IntKind.u32.wrap ((BitVec.ofInt 32 a &&& BitVec.ofInt 32 b).toNat : Int) = _
  rw [IntKind.wrap_u32']
  show ((toB a &&& toB b).toNat : Int) % 4294967296 = _
  unfold ofB; omega
theorem half_B (b : B32) : (ofB b : Int) / (2 : Int) = ofB (b >>> 1) := by
  unfold ofB; rw [BitVec.toNat_ushiftRight, Nat.shiftRight_eq_div_pow]; omega
theorem sixteenth_B (b : B32) : (ofB b : Int) / (16 : Int) = ofB (b >>> 4) := by
  unfold ofB; rw [BitVec.toNat_ushiftRight, Nat.shiftRight_eq_div_pow]; omega
theorem toB_nat (n : Nat) : toB (n : Int) = BitVec.ofNat 32 n := by unfold toB; rw [BitVec.ofInt_natCast]

theorem refBit_B (b : B32) : refBit (ofB b) = ofB (st1 b) := by
  unfold refBit st1
  have e : (bits BinOp.and IntKind.u32 (ofB b) 1 == 1) = b.getLsbD 0 := by
    rw [bits_and_B, toB_ofB]
    have h1 : (b &&& toB 1).toNat = b.toNat % 2 := by
      rw [BitVec.toNat_and]; show b.toNat &&& 1 = _; exact Nat.and_one_is_mod _
    unfold ofB
    rw [h1]
    have h2 : b.getLsbD 0 = decide (b.toNat % 2 = 1) := by simp [BitVec.getLsbD, Nat.testBit]; exact Bool.eq_iff_iff.2 (by simp)
    rw [h2, Bool.eq_iff_iff]; simp only [beq_iff_eq, decide_eq_true_eq]; omega
  rw [e]
  cases b.getLsbD 0 with
  | true => simp only [if_true]; rw [half_B, bits_xor_B, toB_ofB]; rfl
  | false => simp [half_B]
theorem refBits_B (n : Nat) (b : B32) : refBits n (ofB b) = ofB (stn n b) := by
  induction n with
  | zero => rfl
  | succ n ih => show refBit (refBits n (ofB b)) = _; rw [ih, refBit_B]; rfl
/-- A byte more, as bits. -/
def byteB (c : B32) (x : UInt8) : B32 := stn 8 (c ^^^ BitVec.ofNat 32 x.toNat)
def foldB (c : B32) (l : List UInt8) : B32 := l.foldl byteB c
theorem refByte_B (b : B32) (x : UInt8) : refByte (ofB b) x = ofB (byteB b x) := by
  unfold refByte byteB
  rw [bits_xor_B, toB_ofB, refBits_B, toB_nat]
theorem refFold_B (b : B32) (l : List UInt8) : refFold (ofB b) l = ofB (foldB b l) := by
  unfold refFold foldB
  induction l generalizing b with
  | nil => rfl
  | cons x l ih => simp only [List.foldl_cons]; rw [refByte_B]; exact ih _
theorem refSum_B (l : List UInt8) : refSum l = ofB (foldB 0xffffffff#32 l ^^^ 0xffffffff#32) := by
  unfold refSum
  have : (4294967295 : Int) = ofB 0xffffffff#32 := by decide
  rw [this, refFold_B, bits_xor_B, toB_ofB, toB_ofB]

/-- The table, as the program lays it. -/
def tab : List Int := [0, 274646895, 549293790, 820201905, 1098587580, 1361435347, 1640403810, 1905808397, 2197175160, 2460548119, 2722870694, 2987750089, 3280807620, 3553878443, 3811616794, 4084100981]
def T0 (i : Nat) : Int := tab.getD i 0
theorem tab_st : ∀ n : Fin 16, T0 n.val = ofB (stn 4 (BitVec.ofNat 32 n.val)) := by decide
theorem split15 (d : B32) : d = (d &&& 15#32) ^^^ (d &&& ~~~15#32) := by
  apply BitVec.eq_of_getLsbD_eq
  intro i hi
  simp only [BitVec.getLsbD_xor, BitVec.getLsbD_and, BitVec.getLsbD_not, hi, decide_true, Bool.true_and]
  cases d.getLsbD i <;> cases (15#32).getLsbD i <;> rfl
theorem low15 (i : Nat) (h : i < 4) : (15#32).getLsbD i = true := by
  have : ∀ n : Fin 4, (15#32).getLsbD n.val = true := by decide
  exact this ⟨i, h⟩
theorem high15 (i : Nat) (h : 4 ≤ i) : (15#32).getLsbD i = false := by
  by_cases h' : i < 32
  · have : ∀ n : Fin 32, 4 ≤ n.val → (15#32).getLsbD n.val = false := by decide
    exact this ⟨i, h'⟩ h
  · exact BitVec.getLsbD_of_ge _ _ (by omega)
theorem stn4 (d : B32) : stn 4 d = (d >>> 4) ^^^ stn 4 (d &&& 15#32) := by
  have e := stn_xor 4 (d &&& 15#32) (d &&& ~~~15#32)
  rw [← split15 d] at e
  rw [e, stn_shift 4 (d &&& ~~~15#32) (fun i hi => by rw [BitVec.getLsbD_and, BitVec.getLsbD_not, low15 i hi]; simp)]
  rw [BitVec.xor_comm]
  congr 1
  apply BitVec.eq_of_getLsbD_eq
  intro i hi
  rw [BitVec.getLsbD_ushiftRight, BitVec.getLsbD_ushiftRight, BitVec.getLsbD_and, BitVec.getLsbD_not, high15 (4 + i) (by omega)]
  by_cases h32 : 4 + i < 32
  · simp [h32]
  · simp [BitVec.getLsbD_of_ge d (4 + i) (by omega)]
theorem four_B (T : Nat → Int) (hT : ∀ i, i < 16 → T i = T0 i) (b : B32) (x : Nat) (hx : x < 16) : four T (ofB b) (x : Int) = ofB (stn 4 (b ^^^ BitVec.ofNat 32 x)) := by
  have hn : nib (ofB b) (x : Int) = ofB ((b ^^^ BitVec.ofNat 32 x) &&& 15#32) := by
    unfold nib
    rw [bits_xor_B, bits_and_B, toB_ofB, toB_ofB, toB_nat]
    rfl
  have hlt : ((b ^^^ BitVec.ofNat 32 x) &&& 15#32).toNat < 16 := by
    have := (nib_lo (ofB b) (x : Int)).2
    rw [hn] at this
    unfold ofB at this; omega
  unfold four
  rw [hn, sixteenth_B]
  have e1 : (ofB ((b ^^^ BitVec.ofNat 32 x) &&& 15#32)).toNat = ((b ^^^ BitVec.ofNat 32 x) &&& 15#32).toNat := by unfold ofB; omega
  rw [e1, hT _ hlt, tab_st ⟨_, hlt⟩, bits_xor_B, toB_ofB, toB_ofB, stn4 (b ^^^ BitVec.ofNat 32 x), BitVec.ofNat_toNat, BitVec.setWidth_eq]
  congr 2
  rw [BitVec.ushiftRight_xor_distrib]
  have e2 : (BitVec.ofNat 32 x) >>> 4 = 0#32 := by
    apply BitVec.eq_of_toNat_eq
    rw [BitVec.toNat_ushiftRight, BitVec.toNat_ofNat, Nat.shiftRight_eq_div_pow]
    show _ = 0
    omega
  rw [e2, BitVec.xor_zero]
theorem byte_split (x : UInt8) : BitVec.ofNat 32 x.toNat = BitVec.ofNat 32 (x.toNat % 16) ^^^ (BitVec.ofNat 32 (x.toNat / 16) <<< 4) := by
  have : ∀ n : Fin 256, BitVec.ofNat 32 n.val = BitVec.ofNat 32 (n.val % 16) ^^^ (BitVec.ofNat 32 (n.val / 16) <<< 4) := by decide +kernel
  exact this ⟨x.toNat, x.toNat_lt⟩
theorem nib_shift (m : Nat) (hm : m < 16) : stn 4 (BitVec.ofNat 32 m <<< 4) = BitVec.ofNat 32 m := by
  have : ∀ n : Fin 16, stn 4 (BitVec.ofNat 32 n.val <<< 4) = BitVec.ofNat 32 n.val := by decide
  exact this ⟨m, hm⟩
theorem eight_B (T : Nat → Int) (hT : ∀ i, i < 16 → T i = T0 i) (b : B32) (x : UInt8) : eight T (ofB b) x = ofB (byteB b x) := by
  unfold eight byteB
  have hx := x.toNat_lt
  have e1 : ((x.toNat : Int) % 16) = ((x.toNat % 16 : Nat) : Int) := by omega
  have e2 : ((x.toNat : Int) / 16) = ((x.toNat / 16 : Nat) : Int) := by omega
  rw [e1, e2, four_B T hT _ _ (by omega), four_B T hT _ _ (by omega), show (8 : Nat) = 4 + 4 by rfl, stn_add, byte_split x, ← BitVec.xor_assoc, stn_xor 4 (b ^^^ BitVec.ofNat 32 (x.toNat % 16)) (BitVec.ofNat 32 (x.toNat / 16) <<< 4), nib_shift _ (by omega)]
theorem foldC_B (T : Nat → Int) (hT : ∀ i, i < 16 → T i = T0 i) (b : B32) (l : List UInt8) : foldC T (ofB b) l = ofB (foldB b l) := by
  unfold foldC foldB
  induction l generalizing b with
  | nil => rfl
  | cons x l ih => simp only [List.foldl_cons]; rw [eight_B T hT]; exact ih _
theorem inv32_B (b : B32) : inv32 (ofB b) = ofB (b ^^^ 0xffffffff#32) := by
  unfold inv32
  rw [bits_xor_B, toB_ofB, BitVec.xor_comm]
  rfl
theorem moreC_B (T : Nat → Int) (hT : ∀ i, i < 16 → T i = T0 i) (b : B32) (l : List UInt8) : moreC T (ofB b) l = ofB (foldB (b ^^^ 0xffffffff#32) l ^^^ 0xffffffff#32) := by
  unfold moreC
  rw [inv32_B, foldC_B T hT, inv32_B]
/-- The checksum, as bits. -/
def crcB (l : List UInt8) : B32 := foldB 0xffffffff#32 l ^^^ 0xffffffff#32
theorem sum_B (T : Nat → Int) (hT : ∀ i, i < 16 → T i = T0 i) (l : List UInt8) : moreC T 0 l = ofB (crcB l) := by
  have : (0 : Int) = ofB 0#32 := by decide
  rw [this, moreC_B T hT]
  rfl
theorem refSum_crcB (l : List UInt8) : refSum l = ofB (crcB l) := refSum_B l
theorem more_crcB (T : Nat → Int) (hT : ∀ i, i < 16 → T i = T0 i) (l m : List UInt8) : moreC T (refSum l) m = ofB (crcB (l ++ m)) := by
  rw [refSum_crcB, moreC_B T hT]
  unfold crcB
  rw [BitVec.xor_assoc, BitVec.xor_self, BitVec.xor_zero]
  simp [foldB, List.foldl_append]
end Go.Proofs.YtekdnljincbghaaDoor
