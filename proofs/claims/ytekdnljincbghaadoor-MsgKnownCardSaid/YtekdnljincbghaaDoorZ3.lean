/- Texts put together (3 of 7): CrcLaw, Msg6, Ballot4, BalWakes, Read2, Read3, VarLaw, BalTake, OwnM, Msg7, Msg8. -/
import Derived.Test.YtekdnljincbghaaDoorZ2
import Derived.Test.YtekdnljincbghaaDoorZ1
import Derived.Handy
/- The plain law of the checksum: the table's four bits at a time are the reference's bit by bit; the fold is linear; a fault within 32 bits turns it. No program in sight. -/
namespace Go.Proofs.YtekdnljincbghaaDoor
open Go Go.RowKit

abbrev B32 := BitVec 32
def poly : B32 := 0x82f63b78#32
def st1 (c : B32) : B32 := (c >>> 1) ^^^ (if c.getLsbD 0 then poly else 0#32)
def stn : Nat → B32 → B32
  | 0, c => c
  | n + 1, c => st1 (stn n c)

theorem st1_zero : st1 0#32 = 0#32 := by decide
theorem st1_xor (a b : B32) : st1 (a ^^^ b) = st1 a ^^^ st1 b := by
  unfold st1
  rw [BitVec.ushiftRight_xor_distrib, BitVec.getLsbD_xor]
  cases a.getLsbD 0 <;> cases b.getLsbD 0 <;> simp only [Bool.xor_false, Bool.xor_true, Bool.not_false, Bool.not_true, if_true, Bool.false_eq_true, if_false, BitVec.xor_zero]
  · ac_rfl
  · rw [BitVec.xor_assoc (a >>> 1) poly, BitVec.xor_comm poly (b >>> 1), BitVec.xor_assoc]
  · have : a >>> 1 ^^^ poly ^^^ (b >>> 1 ^^^ poly) = (a >>> 1 ^^^ b >>> 1) ^^^ (poly ^^^ poly) := by ac_rfl
    rw [this, BitVec.xor_self, BitVec.xor_zero]
theorem stn_zero (n : Nat) : stn n 0#32 = 0#32 := by
  induction n with
  | zero => rfl
  | succ n ih => show st1 (stn n 0#32) = _; rw [ih, st1_zero]
theorem stn_xor (n : Nat) (a b : B32) : stn n (a ^^^ b) = stn n a ^^^ stn n b := by
  induction n with
  | zero => rfl
  | succ n ih => show st1 (stn n _) = st1 (stn n a) ^^^ st1 (stn n b); rw [ih, st1_xor]
theorem stn_add (m n : Nat) (a : B32) : stn (m + n) a = stn n (stn m a) := by
  induction n with
  | zero => rfl
  | succ n ih => show st1 (stn (m + n) a) = st1 (stn n (stn m a)); rw [ih]
theorem st1_shift (c : B32) (h : c.getLsbD 0 = false) : st1 c = c >>> 1 := by
  unfold st1; rw [h]; simp
/-- The lowest n bits none: n steps are a shift. -/
theorem stn_shift (n : Nat) (c : B32) (h : ∀ i, i < n → c.getLsbD i = false) : stn n c = c >>> n := by
  induction n with
  | zero => simp [stn]
  | succ n ih =>
    show st1 (stn n c) = _
    rw [ih (fun i hi => h i (by omega)), st1_shift _ (by rw [BitVec.getLsbD_ushiftRight]; exact h _ (by omega)), ← BitVec.shiftRight_add]
theorem st1_inj0 (c : B32) (h : st1 c = 0#32) : c = 0#32 := by
  have h31 := congrArg (fun x : B32 => x.getLsbD 31) h
  unfold st1 at h h31
  cases h0 : c.getLsbD 0 with
  | true =>
    rw [h0] at h31
    simp [BitVec.getLsbD_xor, BitVec.getLsbD_ushiftRight, poly] at h31
  | false =>
    rw [h0] at h
    simp only [Bool.false_eq_true, if_false, BitVec.xor_zero] at h
    apply BitVec.eq_of_getLsbD_eq
    intro i hi
    rcases i with _ | i
    · simpa using h0
    · have := congrArg (fun x : B32 => x.getLsbD i) h
      simp only [BitVec.getLsbD_ushiftRight, BitVec.getLsbD_zero] at this
      rw [show i + 1 = 1 + i by omega, this]; simp
theorem stn_inj0 (n : Nat) (c : B32) (h : stn n c = 0#32) : c = 0#32 := by
  induction n generalizing c with
  | zero => exact h
  | succ n ih => exact ih c (st1_inj0 _ h)

/-- The words of the walks, as bits. -/
def toB (c : Int) : B32 := BitVec.ofInt 32 c
def ofB (b : B32) : Int := (b.toNat : Int)
theorem toB_ofB (b : B32) : toB (ofB b) = b := by
  unfold toB ofB; rw [BitVec.ofInt_natCast]; simp
theorem ofB_toB (c : Int) (h : 0 ≤ c ∧ c < 4294967296) : ofB (toB c) = c := by
  obtain ⟨n, rfl⟩ := Int.eq_ofNat_of_zero_le h.1
  unfold toB ofB; rw [BitVec.ofInt_natCast, BitVec.toNat_ofNat]; omega
theorem ofB_lo (b : B32) : 0 ≤ ofB b ∧ ofB b < 4294967296 := by unfold ofB; have := b.isLt; omega
theorem bits_xor_B (a b : Int) : bits .xor .u32 a b = ofB (toB a ^^^ toB b) := by
  have := (toB a ^^^ toB b).isLt
  show IntKind.u32.wrap ((BitVec.ofInt 32 a ^^^ BitVec.ofInt 32 b).toNat : Int) = _
  rw [IntKind.wrap_u32']
  show ((toB a ^^^ toB b).toNat : Int) % 4294967296 = _
  unfold ofB; omega
theorem bits_and_B (a b : Int) : bits .and .u32 a b = ofB (toB a &&& toB b) := by
  have := (toB a &&& toB b).isLt
  show IntKind.u32.wrap ((BitVec.ofInt 32 a &&& BitVec.ofInt 32 b).toNat : Int) = _
  rw [IntKind.wrap_u32']
  show ((toB a &&& toB b).toNat : Int) % 4294967296 = _
  unfold ofB; omega
theorem half_B (b : B32) : (ofB b : Int) / (2 : Int) = ofB (b >>> 1) := by
  unfold ofB; rw [BitVec.toNat_ushiftRight, Nat.shiftRight_eq_div_pow]; omega
theorem sixteenth_B (b : B32) : (ofB b : Int) / (16 : Int) = ofB (b >>> 4) := by
  unfold ofB; rw [BitVec.toNat_ushiftRight, Nat.shiftRight_eq_div_pow]; omega
theorem toB_nat (n : Nat) : toB (n : Int) = BitVec.ofNat 32 n := by unfold toB; rw [BitVec.ofInt_natCast]

theorem refBit_B (b : B32) : refBit (ofB b) = ofB (st1 b) := by
  unfold refBit st1
  have e : (bits BinOp.and IntKind.u32 (ofB b) 1 == 1) = b.getLsbD 0 := by
    rw [bits_and_B, toB_ofB]
    have h1 : (b &&& toB 1).toNat = b.toNat % 2 := by
      rw [BitVec.toNat_and]; show b.toNat &&& 1 = _; exact Nat.and_one_is_mod _
    unfold ofB
    rw [h1]
    have h2 : b.getLsbD 0 = decide (b.toNat % 2 = 1) := by simp [BitVec.getLsbD, Nat.testBit]; exact Bool.eq_iff_iff.2 (by simp)
    rw [h2, Bool.eq_iff_iff]; simp only [beq_iff_eq, decide_eq_true_eq]; omega
  rw [e]
  cases b.getLsbD 0 with
  | true => simp only [if_true]; rw [half_B, bits_xor_B, toB_ofB]; rfl
  | false => simp [half_B]
theorem refBits_B (n : Nat) (b : B32) : refBits n (ofB b) = ofB (stn n b) := by
  induction n with
  | zero => rfl
  | succ n ih => show refBit (refBits n (ofB b)) = _; rw [ih, refBit_B]; rfl
/-- A byte more, as bits. -/
def byteB (c : B32) (x : UInt8) : B32 := stn 8 (c ^^^ BitVec.ofNat 32 x.toNat)
def foldB (c : B32) (l : List UInt8) : B32 := l.foldl byteB c
theorem refByte_B (b : B32) (x : UInt8) : refByte (ofB b) x = ofB (byteB b x) := by
  unfold refByte byteB
  rw [bits_xor_B, toB_ofB, refBits_B, toB_nat]
theorem refFold_B (b : B32) (l : List UInt8) : refFold (ofB b) l = ofB (foldB b l) := by
  unfold refFold foldB
  induction l generalizing b with
  | nil => rfl
  | cons x l ih => simp only [List.foldl_cons]; rw [refByte_B]; exact ih _
theorem refSum_B (l : List UInt8) : refSum l = ofB (foldB 0xffffffff#32 l ^^^ 0xffffffff#32) := by
  unfold refSum
  have : (4294967295 : Int) = ofB 0xffffffff#32 := by decide
  rw [this, refFold_B, bits_xor_B, toB_ofB, toB_ofB]

/-- The table, as the program lays it. -/
def tab : List Int := [0, 274646895, 549293790, 820201905, 1098587580, 1361435347, 1640403810, 1905808397, 2197175160, 2460548119, 2722870694, 2987750089, 3280807620, 3553878443, 3811616794, 4084100981]
def T0 (i : Nat) : Int := tab.getD i 0
theorem tab_st : ∀ n : Fin 16, T0 n.val = ofB (stn 4 (BitVec.ofNat 32 n.val)) := by decide
theorem split15 (d : B32) : d = (d &&& 15#32) ^^^ (d &&& ~~~15#32) := by
  apply BitVec.eq_of_getLsbD_eq
  intro i hi
  simp only [BitVec.getLsbD_xor, BitVec.getLsbD_and, BitVec.getLsbD_not, hi, decide_true, Bool.true_and]
  cases d.getLsbD i <;> cases (15#32).getLsbD i <;> rfl
theorem low15 (i : Nat) (h : i < 4) : (15#32).getLsbD i = true := by
  have : ∀ n : Fin 4, (15#32).getLsbD n.val = true := by decide
  exact this ⟨i, h⟩
theorem high15 (i : Nat) (h : 4 ≤ i) : (15#32).getLsbD i = false := by
  by_cases h' : i < 32
  · have : ∀ n : Fin 32, 4 ≤ n.val → (15#32).getLsbD n.val = false := by decide
    exact this ⟨i, h'⟩ h
  · exact BitVec.getLsbD_of_ge _ _ (by omega)
theorem stn4 (d : B32) : stn 4 d = (d >>> 4) ^^^ stn 4 (d &&& 15#32) := by
  have e := stn_xor 4 (d &&& 15#32) (d &&& ~~~15#32)
  rw [← split15 d] at e
  rw [e, stn_shift 4 (d &&& ~~~15#32) (fun i hi => by rw [BitVec.getLsbD_and, BitVec.getLsbD_not, low15 i hi]; simp)]
  rw [BitVec.xor_comm]
  congr 1
  apply BitVec.eq_of_getLsbD_eq
  intro i hi
  rw [BitVec.getLsbD_ushiftRight, BitVec.getLsbD_ushiftRight, BitVec.getLsbD_and, BitVec.getLsbD_not, high15 (4 + i) (by omega)]
  by_cases h32 : 4 + i < 32
  · simp [h32]
  · simp [BitVec.getLsbD_of_ge d (4 + i) (by omega)]
theorem four_B (T : Nat → Int) (hT : ∀ i, i < 16 → T i = T0 i) (b : B32) (x : Nat) (hx : x < 16) : four T (ofB b) (x : Int) = ofB (stn 4 (b ^^^ BitVec.ofNat 32 x)) := by
  have hn : nib (ofB b) (x : Int) = ofB ((b ^^^ BitVec.ofNat 32 x) &&& 15#32) := by
    unfold nib
    rw [bits_xor_B, bits_and_B, toB_ofB, toB_ofB, toB_nat]
    rfl
  have hlt : ((b ^^^ BitVec.ofNat 32 x) &&& 15#32).toNat < 16 := by
    have := (nib_lo (ofB b) (x : Int)).2
    rw [hn] at this
    unfold ofB at this; omega
  unfold four
  rw [hn, sixteenth_B]
  have e1 : (ofB ((b ^^^ BitVec.ofNat 32 x) &&& 15#32)).toNat = ((b ^^^ BitVec.ofNat 32 x) &&& 15#32).toNat := by unfold ofB; omega
  rw [e1, hT _ hlt, tab_st ⟨_, hlt⟩, bits_xor_B, toB_ofB, toB_ofB, stn4 (b ^^^ BitVec.ofNat 32 x), BitVec.ofNat_toNat, BitVec.setWidth_eq]
  congr 2
  rw [BitVec.ushiftRight_xor_distrib]
  have e2 : (BitVec.ofNat 32 x) >>> 4 = 0#32 := by
    apply BitVec.eq_of_toNat_eq
    rw [BitVec.toNat_ushiftRight, BitVec.toNat_ofNat, Nat.shiftRight_eq_div_pow]
    show _ = 0
    omega
  rw [e2, BitVec.xor_zero]
theorem byte_split (x : UInt8) : BitVec.ofNat 32 x.toNat = BitVec.ofNat 32 (x.toNat % 16) ^^^ (BitVec.ofNat 32 (x.toNat / 16) <<< 4) := by
  have : ∀ n : Fin 256, BitVec.ofNat 32 n.val = BitVec.ofNat 32 (n.val % 16) ^^^ (BitVec.ofNat 32 (n.val / 16) <<< 4) := by decide +kernel
  exact this ⟨x.toNat, x.toNat_lt⟩
theorem nib_shift (m : Nat) (hm : m < 16) : stn 4 (BitVec.ofNat 32 m <<< 4) = BitVec.ofNat 32 m := by
  have : ∀ n : Fin 16, stn 4 (BitVec.ofNat 32 n.val <<< 4) = BitVec.ofNat 32 n.val := by decide
  exact this ⟨m, hm⟩
theorem eight_B (T : Nat → Int) (hT : ∀ i, i < 16 → T i = T0 i) (b : B32) (x : UInt8) : eight T (ofB b) x = ofB (byteB b x) := by
  unfold eight byteB
  have hx := x.toNat_lt
  have e1 : ((x.toNat : Int) % 16) = ((x.toNat % 16 : Nat) : Int) := by omega
  have e2 : ((x.toNat : Int) / 16) = ((x.toNat / 16 : Nat) : Int) := by omega
  rw [e1, e2, four_B T hT _ _ (by omega), four_B T hT _ _ (by omega), show (8 : Nat) = 4 + 4 by rfl, stn_add, byte_split x, ← BitVec.xor_assoc, stn_xor 4 (b ^^^ BitVec.ofNat 32 (x.toNat % 16)) (BitVec.ofNat 32 (x.toNat / 16) <<< 4), nib_shift _ (by omega)]
theorem foldC_B (T : Nat → Int) (hT : ∀ i, i < 16 → T i = T0 i) (b : B32) (l : List UInt8) : foldC T (ofB b) l = ofB (foldB b l) := by
  unfold foldC foldB
  induction l generalizing b with
  | nil => rfl
  | cons x l ih => simp only [List.foldl_cons]; rw [eight_B T hT]; exact ih _
theorem inv32_B (b : B32) : inv32 (ofB b) = ofB (b ^^^ 0xffffffff#32) := by
  unfold inv32
  rw [bits_xor_B, toB_ofB, BitVec.xor_comm]
  rfl
theorem moreC_B (T : Nat → Int) (hT : ∀ i, i < 16 → T i = T0 i) (b : B32) (l : List UInt8) : moreC T (ofB b) l = ofB (foldB (b ^^^ 0xffffffff#32) l ^^^ 0xffffffff#32) := by
  unfold moreC
  rw [inv32_B, foldC_B T hT, inv32_B]
/-- The checksum, as bits. -/
def crcB (l : List UInt8) : B32 := foldB 0xffffffff#32 l ^^^ 0xffffffff#32
theorem sum_B (T : Nat → Int) (hT : ∀ i, i < 16 → T i = T0 i) (l : List UInt8) : moreC T 0 l = ofB (crcB l) := by
  have : (0 : Int) = ofB 0#32 := by decide
  rw [this, moreC_B T hT]
  rfl
theorem refSum_crcB (l : List UInt8) : refSum l = ofB (crcB l) := refSum_B l
theorem more_crcB (T : Nat → Int) (hT : ∀ i, i < 16 → T i = T0 i) (l m : List UInt8) : moreC T (refSum l) m = ofB (crcB (l ++ m)) := by
  rw [refSum_crcB, moreC_B T hT]
  unfold crcB
  rw [BitVec.xor_assoc, BitVec.xor_self, BitVec.xor_zero]
  simp [foldB, List.foldl_append]
end Go.Proofs.YtekdnljincbghaaDoor
/- The walks of msg.sum and msg.Put. -/
namespace Go.Proofs.YtekdnljincbghaaDoor
open Go Go.RowKit Go.Lib

/-- The sum's four bytes. -/
def sumN (l : List UInt8) : Nat := (moreC T0 0 l).toNat
def sum4 (l : List UInt8) : List UInt8 := [UInt8.ofNat (sumN l % 256), UInt8.ofNat (sumN l / 256 % 256), UInt8.ofNat (sumN l / 65536 % 256), UInt8.ofNat (sumN l / 16777216 % 256)]
theorem moreC_lo (l : List UInt8) : 0 ≤ moreC T0 0 l ∧ moreC T0 0 l < 4294967296 := inv32_lo _
theorem sumN_eq (l : List UInt8) : (sumN l : Int) = moreC T0 0 l := by have := moreC_lo l; unfold sumN; omega
/-- A message's bytes. -/
def msgB (d : Md) : List UInt8 := sum4 (insideB d) ++ insideB d
set_option maxRecDepth 100000 in
theorem msum_any (ao : Option Addr) (len cap : Nat) (l : List UInt8) (w : World) (hl : l.length = len) (hlen : len ≤ 9223372036854775807) (hs : Sees w ao l) (hT : TableAt w T0) :
    Calls Tryd.prog 30 #[.slice ao len cap] w (RetApp w none (sum4 l)) := by
  have HC := Lib.hid (sum_any ao len cap l T0 w hl (by omega) hT hs)
  rw [← sumN_eq] at HC
  have HS : Hid (sum4 l = [UInt8.ofNat (sumN l % 256), UInt8.ofNat (sumN l / 256 % 256), UInt8.ofNat (sumN l / 65536 % 256), UInt8.ofNat (sumN l / 16777216 % 256)]) := Lib.hid rfl
  obtain ⟨s, hs⟩ : ∃ s, sumN l = s := ⟨_, rfl⟩
  rw [hs] at HC HS
  clear hs
  go_enter Tryd.func30, Tryd.ntmps30
  go_wp2_with fail
  refine HC.out.mono ?_
  rintro e w1 ⟨rfl, m1⟩
  have hb := heap_alloc_new w1 (.cells #[.int .u8 ((s : Int) % 256), .int .u8 ((s : Int) / 256 % 256), .int .u8 ((s : Int) / 65536 % 256), .int .u8 ((s : Int) / 16777216 % 256)] 5)
  have m2 := Mod.alloc [] w1 (.cells #[.int .u8 ((s : Int) % 256), .int .u8 ((s : Int) / 256 % 256), .int .u8 ((s : Int) / 65536 % 256), .int .u8 ((s : Int) / 16777216 % 256)] 5)
  have HB := Lib.hid hb
  have M1 := Lib.hid m1
  have M2 := Lib.hid m2
  clear hb m1 m2 HC
  go_wp2_with fail
  go_ret
  refine ⟨some ⟨w1.heap.size, 0, none⟩, 4, 4, rfl, by rw [HS.out]; rfl, ?_, (M1.out.trans' M2.out), .inr ⟨w1.heap.size, rfl, M1.out.size, by simp⟩⟩
  have ho := Own.new (sz := 1) (n := 4) HB.out (.inl rfl) (by simp) (by unfold maxLen; omega)
  have he : (sum4 l).map u8v = [.int .u8 ((s : Int) % 256), .int .u8 ((s : Int) / 256 % 256), .int .u8 ((s : Int) / 65536 % 256), .int .u8 ((s : Int) / 16777216 % 256)] := by
    rw [HS.out]
    have e : ∀ k : Nat, (((UInt8.ofNat (k % 256)).toNat : Nat) : Int) = (k : Int) % 256 := by
      intro k
      rw [UInt8.toNat_ofNat']
      omega
    simp only [List.map_cons, List.map_nil, u8v, e, Int.natCast_ediv]
    rfl
  unfold OwnB
  rw [he]
  have hl4 : (sum4 l).length = 4 := by rw [HS.out]; rfl
  rw [hl4]
  exact ho

theorem insideB_len (m : Mm) (h : SmallM m) : (insideB m.d).length ≤ 16000011 := by
  unfold insideB
  have e1 := (enc7_length m.d.h.kind).2
  have e2 := flat_len (fieldB m.d) 4000000 (Fl m.d.h.kind) (fun c _ => fieldB_len m h c)
  have e3 := Fl_len m.d.h.kind
  rw [List.length_append]
  omega
/-- What Put tells. -/
def PutM (w : World) (d : Md) (e : Ending) (w' : World) : Prop :=
  ∃ a n c, e = .returned (.tuple #[.slice a n c, .int .i64 (checkE d)]) ∧ (if MayM d then msgB d else []).length = n ∧ OwnB w' a c (if MayM d then msgB d else []) ∧ Mod [] w w' ∧ (∀ k, k ∈ blk a → w.heap.size ≤ k)
set_option maxRecDepth 100000 in
set_option maxHeartbeats 4000000 in
theorem mput_any (m : Mm) (w : World) (hs : SeesM w m) (hw : WfM m) (hsm : SmallM m) (hf : Flds w) (hT : TableAt w T0) : Calls Tryd.prog 14 #[msgV m] w (PutM w m.d) := by
  have hin := insideB_len m hsm
  have HCK : Hid (∀ w', Mod [] w w' → Calls Tryd.prog 13 #[msgV m] w' fun e w'' => e = .returned (.int .i64 (checkE m.d)) ∧ Mod [] w' w'') := Lib.hid (fun w' hm => check_any m w' (hs.mod0 hm) hw (hf.mod0 hm))
  have HLY : Hid (MayM m.d → ∀ ao len cap xs w', xs.length = len → OwnB w' ao cap xs → len ≤ 1000 → Mod [] w w' → (∀ k, k ∈ blk ao → w.heap.size ≤ k) → Calls Tryd.prog 28 #[.slice ao len cap, msgV m] w' (RetApp w' ao (xs ++ (Fl m.h.kind).flatMap (fieldB m.d)))) :=
    Lib.hid (fun hM ao len cap xs w' h1 h2 h3 h4 h5 => lay_any ao len cap xs m w w' h1 h2 h3 h4 h5 hs hw hsm hM hf)
  have HT := Lib.hid hT
  have HIN : Hid (insideB m.d = enc7 m.h.kind ++ (Fl m.h.kind).flatMap (fieldB m.d)) := Lib.hid rfl
  have hk := hw.h.1
  obtain ⟨d, hd⟩ : ∃ x, m.d = x := ⟨_, rfl⟩
  rw [hd] at HCK HLY HIN hin ⊢
  obtain ⟨⟨kind, bn, br, first, last, commit⟩, vo, vc, votes, so, sc, batches, pl, po, pc⟩ := m
  clear hs hw hsm hf hT hd
  dsimp only at HLY HIN hk
  unfold msgV mC at HCK HLY ⊢
  dsimp only at HCK HLY ⊢
  obtain ⟨vl, hvl⟩ : ∃ n, votes.length = n := ⟨_, rfl⟩
  obtain ⟨bl, hbl⟩ : ∃ n, batches.length = n := ⟨_, rfl⟩
  obtain ⟨sl, hsl⟩ : ∃ n, pl.length = n := ⟨_, rfl⟩
  rw [hvl, hbl, hsl] at HCK HLY ⊢
  clear hvl hbl hsl
  obtain ⟨tail, htail⟩ : ∃ t, (Fl kind).flatMap (fieldB d) = t := ⟨_, rfl⟩
  rw [htail] at HLY HIN
  clear htail
  obtain ⟨w1, hw1, A1, m1⟩ : ∃ x, w.alloc (.cells #[.int .u8 (kind : Int), .int .u64 (bn : Int), .int .i64 br, .int .u64 (first : Int), .int .u64 (last : Int), .int .u64 (commit : Int), .slice vo vl vc, .slice so bl sc, .slice po sl pc] 29) = x ∧
    x.heap[w.heap.size]? = some (.cells #[.int .u8 (kind : Int), .int .u64 (bn : Int), .int .i64 br, .int .u64 (first : Int), .int .u64 (last : Int), .int .u64 (commit : Int), .slice vo vl vc, .slice so bl sc, .slice po sl pc] 29 (0, 0)) ∧ Mod [] w x := ⟨_, rfl, heap_alloc_new w _, Mod.alloc _ _ _⟩
  have LC : Hid (∀ w', Mod [] w1 w' → w'.cell? ⟨w.heap.size, 0, none⟩ = some (.int .u8 (kind : Int)) ∧ w'.cell? ⟨w.heap.size, 1, none⟩ = some (.int .u64 (bn : Int)) ∧ w'.cell? ⟨w.heap.size, 2, none⟩ = some (.int .i64 br) ∧ w'.cell? ⟨w.heap.size, 3, none⟩ = some (.int .u64 (first : Int)) ∧ w'.cell? ⟨w.heap.size, 4, none⟩ = some (.int .u64 (last : Int)) ∧
    w'.cell? ⟨w.heap.size, 5, none⟩ = some (.int .u64 (commit : Int)) ∧ w'.cell? ⟨w.heap.size, 6, none⟩ = some (.slice vo vl vc) ∧ w'.cell? ⟨w.heap.size, 7, none⟩ = some (.slice so bl sc) ∧ w'.cell? ⟨w.heap.size, 8, none⟩ = some (.slice po sl pc)) := Lib.hid (fun w' hm => by
    have h := hm.get A1 List.not_mem_nil
    exact ⟨cell_of_block h, cell_of_block h, cell_of_block h, cell_of_block h, cell_of_block h, cell_of_block h, cell_of_block h, cell_of_block h, cell_of_block h⟩)
  obtain ⟨c0, c1, c2, c3, c4, c5, c6, c7, c8⟩ := LC.out w1 (Mod.refl _ _)
  have M1 := Lib.hid m1
  have HC := Lib.hid (HCK.out w1 m1)
  clear A1 m1 HCK
  go_enter Tryd.func14, Tryd.ntmps14
  go_wp2_with fail
  refine HC.out.mono ?_
  rintro e w2 ⟨rfl, m2⟩
  have M2 := Lib.hid (M1.out.trans' m2)
  have M12 := Lib.hid m2
  clear m2 HC hw1 c0 c1 c2 c3 c4 c5 c6 c7 c8
  by_cases hM : MayM d
  case neg =>
    have HE : Hid (checkE d = 1) := Lib.hid (checkE_no hM)
    have HI : Hid ((if MayM d then msgB d else []) = []) := Lib.hid (if_neg hM)
    rw [HE.out]
    go_wp2_with fail
    go_ret2
    unfold PutM
    rw [HE.out, HI.out]
    exact ⟨none, 0, 0, rfl, rfl, Own.nil0 _ _ _, M2.out, fun k hk => absurd hk (by simp [blk])⟩
  have HE : Hid (checkE d = 0) := Lib.hid (if_pos hM)
  have HI : Hid ((if MayM d then msgB d else []) = sum4 (insideB d) ++ insideB d) := Lib.hid (if_pos hM)
  have HLY2 := Lib.hid (HLY.out hM)
  rw [HE.out]
  clear HLY hM
  go_upto_region 4 with (fail)
  refine rest_start [] 7 #[false, false, false, false, false, false, false] rfl (by kernel_rfl) (by kernel_rfl) ?_
  intro w3 m3
  have M13 := Lib.hid (M12.out.trans' m3)
  have M3 := Lib.hid (M2.out.trans' m3)
  have LC3 : Hid (∀ w', Mod [] w3 w' → _) := Lib.hid (fun w' hm => LC.out w' (M13.out.trans' hm))
  obtain ⟨c0, -, -, -, -, -, -, -, -⟩ := LC3.out w3 (Mod.refl _ _)
  clear m3 LC M12
  refine rest_got (i := 0) (v := ?v1) rfl (by kernel_rfl) (by kernel_rfl) (by kernel_rfl) (fun _ _ _ h => h) (by rfl) ?y1 ?r1
  case y1 => (intro w9q hSwq; clear hSwq; go_simp; with_reducible rfl)
  try simp only [Act.put, List.setIfInBounds_toArray, List.set_cons_zero, List.set_cons_succ]
  refine rest_got (i := 1) (v := ?v2) rfl (by kernel_rfl) (by kernel_rfl) (by kernel_rfl) (fun _ _ _ h => h) (by rfl) ?y2 ?r2
  case y2 => ((intro w9' hm9'; have hc9' := Mod.cell hm9' c0 (by first | exact List.not_mem_nil | assumption | (simp; done) | (simp; omega)); clear hm9'; go_simp; with_reducible rfl))
  try simp only [Act.put, List.setIfInBounds_toArray, List.set_cons_zero, List.set_cons_succ]
  refine rest_got (i := 2) (v := ?v3) rfl (by kernel_rfl) (by kernel_rfl) (by kernel_rfl) (fun _ _ _ h => h) (by rfl) ?y3 ?r3
  case y3 => (intro w9q hSwq; clear hSwq; go_simp; with_reducible rfl)
  try simp only [Act.put, List.setIfInBounds_toArray, List.set_cons_zero, List.set_cons_succ]
  refine rest_got (i := 4) (v := ?v4) rfl (by kernel_rfl) (by kernel_rfl) (by kernel_rfl) (fun _ _ _ h => h) (by rfl) ?y4 ?r4
  case y4 => ((intro w9' hm9'; obtain ⟨hc0', hc1', hc2', hc3', hc4', hc5', hc6', hc7', hc8'⟩ := LC3.out w9' hm9'; clear hm9'; go_simp; with_reducible rfl))
  try simp only [Act.put, List.setIfInBounds_toArray, List.set_cons_zero, List.set_cons_succ]
  refine rest_one (i := 3) (by kernel_rfl) rfl (by rfl) ?_
  go_wp2_with fail
  refine (vuint_any none 0 0 kind [] w3 rfl (Own.nil0 _ _ _) (by omega) (by omega)).mono ?_
  rintro e w4 ⟨a4, n4, c4, rfl, k4, o4, m4, s4⟩
  rw [List.nil_append] at k4 o4
  have M4 := Lib.hid (M3.out.trans' m4)
  have hel := (enc7_length kind).2
  have N4 : Hid (∀ k, k ∈ blk a4 → w3.heap.size ≤ k) := Lib.hid (fun k hk => by
    rcases s4.blk k hk with h | h
    · exact absurd h (by simp [blk])
    · exact h)
  have HCL := Lib.hid (HLY2.out a4 n4 c4 _ w4 k4 o4 (by omega) M4.out (fun k hk => Nat.le_trans M3.out.size (N4.out k hk)))
  go_wp2_with fail
  refine back_to (K1 := blk a4) m4 (fun k hk hl => by have := N4.out k hk; omega) ?_
  clear k4 o4 m4 s4 c0 LC3 HLY2
  
  refine rest_one (i := 5) (by kernel_rfl) rfl (by rfl) ?_
  go_wp2_with fail
  refine HCL.out.mono ?_
  rintro e w5 ⟨a5, n5, c5, rfl, k5, o5, m5, s5⟩
  rw [← HIN.out] at k5 o5
  have M5 := Lib.hid (M4.out.trans m5 (fun k hk hl => by have := N4.out k hk; have := M3.out.size; omega))
  have HK5 := Lib.hid k5
  have O5 := Lib.hid o5
  go_wp2_with fail
  refine back_to (K1 := blk a5) m5 (back_keys s5) ?_
  have h5 : n5 ≤ 16000011 := by rw [← k5]; exact hin
  clear k5 o5 m5 s5 HCL
  refine rest_got (i := 6) (v := ?v5) rfl (by kernel_rfl) (by kernel_rfl) (by kernel_rfl) (fun _ _ _ h => h) (by rfl) ?y5 ?r5
  case y5 => (intro w9q hSwq; clear hSwq; go_simp; with_reducible rfl)
  try simp only [Act.put, List.setIfInBounds_toArray, List.set_cons_zero, List.set_cons_succ]
  refine rest_done (by kernel_rfl) ?_ _
  have HSM := Lib.hid (msum_any a5 n5 c5 (insideB d) w5 HK5.out (by omega) O5.out.sees (HT.out.mod0 M5.out))
  go_wp2_with fail
  refine HSM.out.mono ?_
  rintro e w6 ⟨a6, n6, c6, rfl, k6, o6, m6, s6⟩
  have h6 : n6 = 4 := by rw [← k6]; rfl
  subst h6
  have M6 := Lib.hid (M5.out.trans' m6)
  have O6 := Lib.hid o6
  have HK6 := Lib.hid k6
  have N6 : Hid (∀ k, k ∈ blk a6 → w5.heap.size ≤ k) := Lib.hid (fun k hk => by
    rcases s6.blk k hk with h | h
    · exact absurd h (by simp [blk])
    · exact h)
  have HS6 := Lib.hid (O5.out.sees.mod0 m6)
  have hbn : 4 + n5 ≤ 140737488355328 := by omega
  clear k6 o6 m6 s6 HSM
  go_wp2_with (first | (at_builtin; refine wpl_app8 (dst := some 20) _ _ a6 4 c6 _ rfl HK6.out O6.out a5 n5 c5 _ rfl HK5.out HS6.out hbn ?_) | fail)
  intro a7 c7 w7 o7 m7 s7
  have M7 := Lib.hid (M6.out.trans m7 (fun k hk hl => by have := N6.out k hk; have := M5.out.size; omega))
  have O7 := Lib.hid o7
  have N7 : Hid (∀ k, k ∈ blk a7 → w.heap.size ≤ k) := Lib.hid (fun k hk => by
    rcases s7.blk k hk with h | h
    · exact Nat.le_trans M5.out.size (N6.out k h)
    · exact Nat.le_trans M6.out.size h)
  clear o7 m7 s7
  go_wp2_with fail
  go_ret2
  unfold PutM
  rw [HE.out, HI.out]
  exact ⟨a7, 4 + n5, c7, rfl, by rw [List.length_append, HK6.out, HK5.out], O7.out, M7.out, N7.out⟩
end Go.Proofs.YtekdnljincbghaaDoor
/- The walks of the ballot package: the greatest one. -/
namespace Go.Proofs.YtekdnljincbghaaDoor
open Go Go.RowKit Go.Lib

/-- The slice at 'ao' shows these ballots. -/
def SeesB (w : World) (ao : Option Addr) (l : List (Int × Int)) : Prop :=
  ∀ j (h : j < l.length), ∃ b off, ao = some ⟨b, off, none⟩ ∧ w.cell? ⟨b, off + j * 2, none⟩ = some (.int .u64 l[j].1) ∧ w.cell? ⟨b, off + j * 2 + 1, none⟩ = some (.int .i64 l[j].2)
theorem SeesB.mod0 {w w' : World} {ao : Option Addr} {l : List (Int × Int)} (h : SeesB w ao l) (hm : Mod [] w w') : SeesB w' ao l := by
  intro j hj
  obtain ⟨b, off, h1, h2, h3⟩ := h j hj
  exact ⟨b, off, h1, hm.cell h2 (by simp), hm.cell h3 (by simp)⟩

theorem two_set {w : World} {g : Nat} {t : TypeId} {a b : Value} (h : w.heap[g]? = some (.cells #[a, b] t (0, 0))) (u v : Value) :
    ((w.setCell ⟨g, 0, none⟩ u).setCell ⟨g, 1, none⟩ v).heap[g]? = some (.cells #[u, v] t (0, 0)) := by
  rw [heap_setCell_same (heap_setCell_same h u) v]; rfl
theorem two_mod (w : World) (g : Nat) (u v : Value) : Mod [g] w ((w.setCell ⟨g, 0, none⟩ u).setCell ⟨g, 1, none⟩ v) :=
  (Mod.setCell _ _ _ (by simp)).trans' (Mod.setCell _ _ _ (by simp))
/-- The greatest of the first k. -/
def maxK (l : List (Int × Int)) : Nat → Int × Int
  | 0 => (0, 0)
  | k + 1 => if k = 0 ∨ lessB (maxK l k).1 (maxK l k).2 (l.getD k (0, 0)).1 (l.getD k (0, 0)).2 = true then l.getD k (0, 0) else maxK l k

end Go.Proofs.YtekdnljincbghaaDoor
/- The walk of the ballot laws' wakes. -/
namespace Go.Proofs.YtekdnljincbghaaDoor
open Go Go.RowKit Go.Lib

end Go.Proofs.YtekdnljincbghaaDoor
/- The walks of the varint package's reader: numbers and texts. -/
namespace Go.Proofs.YtekdnljincbghaaDoor
open Go Go.RowKit

/-- What bytes are read as a number: k rounds are left, the i-th byte comes, n is what was read: the number, the error, what is left. -/
def uintR : Nat → Nat → Nat → List UInt8 → Nat × Int × List UInt8
  | 0, _, _, l => (0, 0, l)
  | _ + 1, _, _, [] => (0, 10, [])
  | k + 1, i, n, c :: r =>
    if (i = 9 ∧ 1 < c.toNat) ∨ (0 < i ∧ c.toNat = 0) then (0, 11, r)
    else if c.toNat < 128 then (n + c.toNat % 128 * 2 ^ (7 * i), 0, r)
    else uintR k (i + 1) (n + c.toNat % 128 * 2 ^ (7 * i)) r
def uintE (k i n : Nat) (e : Int) (l : List UInt8) : Nat × Int × List UInt8 := if e = 0 then uintR k i n l else (0, e, l)

theorem and127_all : ∀ n, n < 256 → bits .and .u8 ((n : Nat) : Int) 127 = ((n % 128 : Nat) : Int) := by decide +kernel
theorem or_walk (acc k : Nat) (c : UInt8) (ha : acc < 2 ^ (7 * k)) (hk : k ≤ 9) (h9 : k = 9 → c.toNat ≤ 1) :
    bits BinOp.or IntKind.u64 (acc : Int) (IntKind.u64.wrap (IntKind.u64.wrap (bits BinOp.and IntKind.u8 ((c.toNat : Nat) : Int) 127) * 2 ^ (7 * k))) = ((acc + c.toNat % 128 * 2 ^ (7 * k) : Nat) : Int) := by
  have hx : c.toNat % 128 < 128 := Nat.mod_lt _ (by omega)
  rw [and127_all _ c.toNat_lt, IntWalk.u64_in ((c.toNat % 128 : Nat) : Int) (by omega)]
  have hp : 2 ^ (7 * k) ≤ 2 ^ 63 := Nat.pow_le_pow_right (by omega) (by omega)
  have hb : c.toNat % 128 * 2 ^ (7 * k) < 18446744073709551616 := by
    by_cases h : k = 9
    · have h1 : c.toNat % 128 ≤ 1 := by have := h9 h; omega
      have := Nat.mul_le_mul h1 hp
      omega
    · have hp8 : 2 ^ (7 * k) ≤ 2 ^ 56 := Nat.pow_le_pow_right (by omega) (by omega)
      have := Nat.mul_le_mul (Nat.le_of_lt_succ hx) hp8
      omega
  have e : (((c.toNat % 128 : Nat) : Int) * 2 ^ (7 * k)) = ((c.toNat % 128 * 2 ^ (7 * k) : Nat) : Int) := by
    rw [Int.natCast_mul, Int.natCast_pow]; rfl
  rw [e, IntWalk.u64_in _ (by omega), bits_or_u64_nat _ _ (by omega) hb]
  have := Nat.shiftLeft_add_eq_or_of_lt ha (c.toNat % 128)
  rw [Nat.shiftLeft_eq] at this
  rw [Nat.or_comm, ← this, Nat.add_comm]
theorem acc_next (acc k : Nat) (c : UInt8) (ha : acc < 2 ^ (7 * k)) : acc + c.toNat % 128 * 2 ^ (7 * k) < 2 ^ (7 * (k + 1)) := by
  have hx : c.toNat % 128 ≤ 127 := by omega
  have h1 := Nat.mul_le_mul_right (2 ^ (7 * k)) hx
  have h2 : 2 ^ (7 * (k + 1)) = 128 * 2 ^ (7 * k) := by rw [Nat.mul_add, Nat.pow_add, Nat.mul_comm]
  omega
theorem uintE_end (k i n : Nat) : uintE (k + 1) i n 0 [] = (0, 10, []) := rfl
theorem uintE_bad (k i n : Nat) (c : UInt8) (r : List UInt8) (h : (i = 9 ∧ 1 < c.toNat) ∨ (0 < i ∧ c.toNat = 0)) : uintE (k + 1) i n 0 (c :: r) = (0, 11, r) := by simp [uintE, uintR, h]
theorem uintE_last (k i n : Nat) (c : UInt8) (r : List UInt8) (h1 : ¬ (i = 9 ∧ 1 < c.toNat)) (h2 : ¬ (0 < i ∧ c.toNat = 0)) (h3 : c.toNat < 128) : uintE (k + 1) i n 0 (c :: r) = (n + c.toNat % 128 * 2 ^ (7 * i), 0, r) := by
  have h : ¬ ((i = 9 ∧ 1 < c.toNat) ∨ (0 < i ∧ c.toNat = 0)) := fun h => h.elim h1 h2
  simp only [uintE, uintR, if_true, if_neg h, if_pos h3]
theorem uintE_more (k i n : Nat) (c : UInt8) (r : List UInt8) (h1 : ¬ (i = 9 ∧ 1 < c.toNat)) (h2 : ¬ (0 < i ∧ c.toNat = 0)) (h3 : ¬ c.toNat < 128) : uintE (k + 1) i n 0 (c :: r) = uintE k (i + 1) (n + c.toNat % 128 * 2 ^ (7 * i)) 0 r := by
  have h : ¬ ((i = 9 ∧ 1 < c.toNat) ∨ (0 < i ∧ c.toNat = 0)) := fun h => h.elim h1 h2
  simp only [uintE, uintR, if_true, if_neg h, if_neg h3]
theorem uintE_err (k i n : Nat) (e : Int) (l : List UInt8) (h : e ≠ 0) : uintE k i n e l = (0, e, l) := by simp [uintE, h]

set_option maxRecDepth 100000 in
set_option maxHeartbeats 1000000 in
theorem ruint_any (g : Nat) (bs : List Nat) (e : Int) (l : List UInt8) (lim : Int) (w : World) (h : Rd w g bs e l lim) :
    Calls Tryd.prog 40 #[.pointer (some ⟨g, 0, none⟩)] w fun r w' => r = .returned (.int .u64 ((uintE 10 0 0 e l).1 : Int)) ∧ Rd w' g bs (uintE 10 0 0 e l).2.1 (uintE 10 0 0 e l).2.2 lim ∧ Mod [g] w w' := by
  have H := Lib.hid h
  clear h
  go_enter Tryd.func40, Tryd.ntmps40
  go_wp2
  go_loopw [3, 4] (fun n i wr => ∃ (k acc : Nat) (l' : List UInt8), k ≤ 10 ∧ acc < 2 ^ (7 * k) ∧ n = .int .u64 (acc : Int) ∧ i = .int .i64 (k : Int) ∧ Rd wr g bs e l' lim ∧ Mod [g] w wr ∧ uintE 10 0 0 e l = uintE (10 - k) k acc e l') (fun _ i _ => 10 - (intOf i).toNat)
  case atStart => exact ⟨0, 0, l, by omega, by decide, rfl, rfl, H.out, Mod.refl _ _, rfl⟩
  case round =>
    obtain ⟨k, acc, l', hk, hacc, rfl, rfl, hr, hm, hu⟩ := hrel
    have HR := Lib.hid hr
    have HM := Lib.hid hm
    have HU := Lib.hid hu
    have HA := Lib.hid hacc
    clear hr hm hu hacc H
    by_cases hlt : k < 10
    · go_wp2_with fail
      refine (byte_any g bs e l' lim _ HR.out).mono ?_
      rintro e1 w1 ⟨rfl, hr1, hm1⟩
      have HR1 := Lib.hid hr1
      have HM1 := Lib.hid (HM.out.trans' hm1)
      clear hr1 hm1 HR HM
      go_wp2_with fail
      refine (err_any g bs _ _ lim _ HR1.out).mono ?_
      rintro e2 w2 ⟨rfl, rfl⟩
      by_cases he : e = 0
      · subst he
        have e10 : 10 - k = (9 - k) + 1 := by omega
        rw [e10] at HU
        cases l' with
        | nil =>
          simp only [byteR, if_true] at *
          have hu := HU.out
          rw [uintE_end] at hu
          have HV := Lib.hid hu
          clear hu
          go_wp2
          go_ret
          rw [HV.out]
          exact ⟨rfl, HR1.out, HM1.out⟩
        | cons c r =>
          simp only [byteR, if_true] at *
          have hc1 := toNat_lt c
          have hc0 : (0 : Int) ≤ ((c.toNat : Nat) : Int) := by omega
          obtain ⟨ao2, cap2, f0, _, _, fr, _⟩ := HR1.out.open
          have fr0 := fr 0
          clear fr
          by_cases hA : k = 9 ∧ 1 < c.toNat
          · have hu := HU.out
            rw [uintE_bad _ _ _ _ _ (.inl hA)] at hu
            have HV := Lib.hid hu
            obtain ⟨rfl, hc⟩ := hA
            have hc' : (1 : Int) < ((c.toNat : Nat) : Int) := by omega
            clear hu
            go_wp2_with (go_at_call 61; refine (fail_any g 0 11 _ f0 fr0).mono ?_; rintro e w1 ⟨⟨v, rfl⟩, rfl⟩)
            go_ret
            rw [HV.out]
            exact ⟨rfl, HR1.out.err 11, HM1.out.trans' (Mod.setCell _ _ _ (by simp))⟩
          by_cases hB : 0 < k ∧ c.toNat = 0
          · have hu := HU.out
            rw [uintE_bad _ _ _ _ _ (.inr hB)] at hu
            have HV := Lib.hid hu
            obtain ⟨hk0, hc⟩ := hB
            have hc' : ((c.toNat : Nat) : Int) = 0 := by omega
            rw [hc'] at *
            clear hu
            go_wp2_with (go_at_call 61; refine (fail_any g 0 11 _ f0 fr0).mono ?_; rintro e w1 ⟨⟨v, rfl⟩, rfl⟩)
            all_goals go_ret
            all_goals rw [HV.out]
            all_goals exact ⟨rfl, HR1.out.err 11, HM1.out.trans' (Mod.setCell _ _ _ (by simp))⟩
          have hE := or_walk acc k c HA.out (by omega) (by omega)
          have HE := Lib.hid hE
          have hz : 0 < k → ((c.toNat : Nat) : Int) ≠ 0 := by omega
          have hz2 : 0 < k → (((c.toNat : Nat) : Int) == 0) = false := by intro h; simpa using hz h
          have h9 : k = 9 → ¬ (1 < ((c.toNat : Nat) : Int)) := by omega
          clear hE
          by_cases hC : c.toNat < 128
          · have hC' : ((c.toNat : Nat) : Int) < 128 := by omega
            have hu := HU.out
            rw [uintE_last _ _ _ _ _ hA hB hC] at hu
            have HV := Lib.hid hu
            clear hu
            have HA' := Lib.hid hA
            have HB' := Lib.hid hB
            clear hA hB
            go_wp2
            all_goals go_ret
            all_goals rw [HE.out, HV.out]
            all_goals exact ⟨rfl, HR1.out, HM1.out⟩
          · have hu := HU.out
            rw [uintE_more _ _ _ _ _ hA hB hC] at hu
            have HU2 := Lib.hid hu
            have hC' : ¬ ((c.toNat : Nat) : Int) < 128 := by omega
            have hk8 : k < 9 := by omega
            clear hu
            have HA' := Lib.hid hA
            have HB' := Lib.hid hB
            clear hA hB
            go_wp2
            all_goals go_roundw
            all_goals first
              | exact ⟨k + 1, _, r, by omega, acc_next acc k c HA.out, by rw [HE.out], by go_num, HR1.out, HM1.out, by rw [HU2.out]; congr 1; omega⟩
              | (simp [intOf]; omega)
      · have hb : byteR e l' = (0, e, l') := by cases l' <;> simp [byteR, he]
        have hr1 := HR1.out
        rw [hb] at hr1
        have HR2 := Lib.hid hr1
        clear hr1 HR1
        simp only [hb]
        have hu := HU.out
        rw [uintE_err _ _ _ _ _ he, uintE_err _ _ _ _ _ he] at hu
        simp only [Prod.mk.injEq, true_and] at hu
        obtain rfl := hu
        clear HU
        go_wp2
        go_ret
        rw [uintE_err _ _ _ _ _ he]
        exact ⟨rfl, HR2.out, HM1.out⟩
    · have hk10 : k = 10 := by omega
      subst hk10
      have hu := HU.out
      have he0 : uintE (10 - 10) 10 acc e l' = (0, e, l') := by
        by_cases he : e = 0
        · subst he; rfl
        · exact uintE_err _ _ _ _ _ he
      rw [he0] at hu
      have HV := Lib.hid hu
      clear hu he0
      go_wp2
      go_ret
      rw [HV.out]
      exact ⟨rfl, HR.out, HM.out⟩
end Go.Proofs.YtekdnljincbghaaDoor
/- The walks of the varint package's reader: signed numbers, texts, the end; a new one. -/
namespace Go.Proofs.YtekdnljincbghaaDoor
open Go Go.RowKit

/-- A number from 0 on, as a signed one. -/
def zag (n : Nat) : Int := if n % 2 = 0 then ((n / 2 : Nat) : Int) else -((n / 2 : Nat) : Int) - 1

theorem uintR_lt (k : Nat) : ∀ (i n : Nat) (l : List UInt8), n < 2 ^ (7 * i) → i + k = 10 → (uintR k i n l).1 < 18446744073709551616 := by
  induction k with
  | zero => intro i n l _ _; simp [uintR]
  | succ k ih =>
    intro i n l hn hk
    cases l with
    | nil => simp [uintR]
    | cons c r =>
      unfold uintR
      split
      · simp
      · rename_i hbad
        have h9 : i = 9 → c.toNat ≤ 1 := fun h => by
          by_cases h1 : 1 < c.toNat
          · exact absurd (.inl ⟨h, h1⟩) hbad
          · omega
        split
        · show n + c.toNat % 128 * 2 ^ (7 * i) < _
          by_cases h : i = 9
          · subst h
            have h1 : c.toNat % 128 ≤ 1 := by have := h9 rfl; omega
            have h2 : 2 ^ (7 * 9) = 9223372036854775808 := by decide
            rw [h2] at *
            omega
          · have h1 := acc_next n i c hn
            have h2 : 2 ^ (7 * (i + 1)) ≤ 2 ^ 63 := Nat.pow_le_pow_right (by omega) (by omega)
            omega
        · by_cases h : i = 9
          · rename_i h128
            have := h9 h; omega
          · exact ih (i + 1) _ r (acc_next n i c hn) (by omega)
theorem uintE_lt (e : Int) (l : List UInt8) : (uintE 10 0 0 e l).1 < 18446744073709551616 := by
  unfold uintE
  split
  · exact uintR_lt 10 0 0 l (by decide) rfl
  · simp
theorem xor_i64 (n : Nat) (h : n < 9223372036854775808) (m : Int) (hm : m = 0 ∨ m = -1) : bits .xor .i64 (n : Int) m = if m = 0 then (n : Int) else -(n : Int) - 1 := by
  have e2 : BitVec.ofInt 64 (n : Int) = BitVec.ofNat 64 n := BitVec.ofInt_natCast 64 n
  show IntKind.i64.wrap ((BitVec.ofInt 64 (n : Int) ^^^ BitVec.ofInt 64 m).toNat : Int) = _
  rcases hm with rfl | rfl
  · have e1 : BitVec.ofInt 64 0 = 0#64 := by decide
    rw [e1, e2, BitVec.xor_zero, BitVec.toNat_ofNat, Nat.mod_eq_of_lt (by omega), if_pos rfl, IntKind.wrap_i64]
    omega
  · have e1 : BitVec.ofInt 64 (-1) = BitVec.allOnes 64 := by decide
    rw [e1, e2, BitVec.xor_allOnes, BitVec.toNat_not, BitVec.toNat_ofNat, Nat.mod_eq_of_lt (by omega), if_neg (by decide), IntKind.wrap_i64]
    omega
theorem zag_walk (n : Nat) (h : n < 18446744073709551616) :
    bits BinOp.xor IntKind.i64 (wrap64 ((n : Int) / 2)) (wrap64 (-wrap64 (bits BinOp.and IntKind.u64 (n : Int) 1))) = zag n := by
  have e1 : bits BinOp.and IntKind.u64 (n : Int) 1 = ((n % 2 : Nat) : Int) := by
    have := bits_and_u64_nat n 1 h (by omega)
    rw [Nat.and_one_is_mod] at this
    exact this
  have e2 : wrap64 ((n : Int) / 2) = ((n / 2 : Nat) : Int) := by
    unfold wrap64; omega
  rw [e1, e2]
  rcases Nat.mod_two_eq_zero_or_one n with h0 | h0
  · have w0 : wrap64 (-wrap64 ((0 : Nat) : Int)) = 0 := by unfold wrap64; omega
    rw [h0, w0, xor_i64 _ (by omega) _ (.inl rfl), if_pos rfl, zag, if_pos h0]
  · have w1 : wrap64 (-wrap64 ((1 : Nat) : Int)) = -1 := by unfold wrap64; omega
    rw [h0, w1, xor_i64 _ (by omega) _ (.inr rfl), if_neg (by omega), zag, if_neg (by omega)]
/-- The end. -/
def doneR (e : Int) (l : List UInt8) : Int := if e = 0 then (if l = [] then 0 else 11) else e
set_option maxHeartbeats 1000000 in
theorem rdone_any (g : Nat) (bs : List Nat) (e : Int) (l : List UInt8) (lim : Int) (w : World) (h : Rd w g bs e l lim) :
    Calls Tryd.prog 42 #[.pointer (some ⟨g, 0, none⟩)] w fun r w' => r = .returned (.int .i64 (doneR e l)) ∧ Rd w' g bs (doneR e l) l lim ∧ Mod [g] w w' := by
  obtain ⟨ao, cap, c0, c1, c2, fr, h3, h4, h5, h6⟩ := h.open
  have fr0 := fr 0
  have H := Lib.hid h
  clear h fr h5 h6
  by_cases he : e = 0
  · subst he
    cases l with
    | nil =>
      go_enter Tryd.func42, Tryd.ntmps42
      go_wp2_with (go_at_call 60; refine (err_any g bs 0 [] lim _ H.out).mono ?_; rintro e w1 ⟨rfl, rfl⟩)
      go_ret
      exact ⟨rfl, H.out, Mod.refl _ _⟩
    | cons c r =>
      have hlen : (c :: r).length = r.length + 1 := rfl
      go_enter Tryd.func42, Tryd.ntmps42
      go_wp2_with (first | (go_at_call 60; refine (err_any g bs 0 (c :: r) lim _ H.out).mono ?_; rintro e w1 ⟨rfl, rfl⟩) | (go_at_call 61; refine (fail_any g 0 11 _ c0 fr0).mono ?_; rintro e w1 ⟨⟨v, rfl⟩, rfl⟩; simp only [if_true]))
      go_ret
      exact ⟨rfl, H.out.err 11, Mod.setCell _ _ _ (by simp)⟩
  · have hd : doneR e l = e := by simp [doneR, he]
    go_enter Tryd.func42, Tryd.ntmps42
    go_wp2_with (go_at_call 60; refine (err_any g bs e l lim _ H.out).mono ?_; rintro e w1 ⟨rfl, rfl⟩)
    go_ret
    rw [hd]
    exact ⟨rfl, H.out, Mod.refl _ _⟩

theorem blk_map (ao : Option Addr) (n : Nat) : blk (ao.map fun x => x.add n) = blk ao := by
  cases ao with
  | none => rfl
  | some a => simp only [Option.map_some, blk, Addr.add]; split <;> rfl
theorem Sees.dropMap {w : World} {ao : Option Addr} {l : List UInt8} (h : Sees w ao l) (n : Nat) : Sees w (ao.map fun x => x.add n) (l.drop n) := by
  intro j hj
  have hj' : n + j < l.length := by simp only [List.length_drop] at hj; omega
  obtain ⟨b, off, rfl, h2⟩ := h (n + j) hj'
  refine ⟨b, off + n, by simp [Addr.add_lit], ?_⟩
  rw [List.getElem_drop, Nat.add_assoc]; exact h2
/-- A text. -/
def textR (lim e : Int) (l : List UInt8) : List UInt8 × Int × List UInt8 :=
  if (uintE 10 0 0 e l).2.1 ≠ 0 then ([], (uintE 10 0 0 e l).2.1, (uintE 10 0 0 e l).2.2)
  else if max lim 0 < ((uintE 10 0 0 e l).1 : Int) then ([], 11, (uintE 10 0 0 e l).2.2)
  else if (uintE 10 0 0 e l).2.2.length < (uintE 10 0 0 e l).1 then ([], 10, (uintE 10 0 0 e l).2.2)
  else ((uintE 10 0 0 e l).2.2.take (uintE 10 0 0 e l).1, 0, (uintE 10 0 0 e l).2.2.drop (uintE 10 0 0 e l).1)
set_option maxRecDepth 100000 in
set_option maxHeartbeats 1000000 in
theorem rtext_any (g : Nat) (bs : List Nat) (e : Int) (l : List UInt8) (lim : Int) (w : World) (h : Rd w g bs e l lim) (hl1 : -9223372036854775808 ≤ lim) (hl2 : lim ≤ 9223372036854775807) :
    Calls Tryd.prog 72 #[.pointer (some ⟨g, 0, none⟩)] w fun r w' => r = .returned (strV (textR lim e l).1) ∧ Rd w' g bs (textR lim e l).2.1 (textR lim e l).2.2 lim ∧ Mod [g] w w' := by
  have H := Lib.hid h
  clear h
  have hu := uintE_lt e l
  have ht : textR lim e l = if (uintE 10 0 0 e l).2.1 ≠ 0 then ([], (uintE 10 0 0 e l).2.1, (uintE 10 0 0 e l).2.2)
    else if max lim 0 < ((uintE 10 0 0 e l).1 : Int) then ([], 11, (uintE 10 0 0 e l).2.2)
    else if (uintE 10 0 0 e l).2.2.length < (uintE 10 0 0 e l).1 then ([], 10, (uintE 10 0 0 e l).2.2)
    else ((uintE 10 0 0 e l).2.2.take (uintE 10 0 0 e l).1, 0, (uintE 10 0 0 e l).2.2.drop (uintE 10 0 0 e l).1) := rfl
  have HT := Lib.hid ht
  clear ht
  go_enter Tryd.func72, Tryd.ntmps72
  go_wp2_with fail
  refine (ruint_any g bs e l lim _ H.out).mono ?_
  rintro e1 w1 ⟨rfl, hr1, hm1⟩
  revert hr1 hu HT
  generalize uintE 10 0 0 e l = u
  obtain ⟨n, e2, l2⟩ := u
  intro hu HT hr1
  simp only at hr1 hu ⊢
  have HR1 := Lib.hid hr1
  have HM1 := Lib.hid hm1
  clear hr1 hm1 H
  obtain ⟨ao, cap, c0, c1, c2, fr, h3, h4, h5, h6⟩ := HR1.out.open
  have fr0 := fr 0
  have fr1 := fr 1
  have HS := Lib.hid h5
  have HB := Lib.hid h6
  clear fr h5 h6
  have ht := HT.out
  simp only at ht
  clear HT
  have hw : IntKind.u64.wrap (max lim 0) = max lim 0 := IntWalk.u64_in _ (by omega)
  have hw0 : lim < 0 → max lim 0 = 0 := by omega
  have hw1 : 0 ≤ lim → max lim 0 = lim := by omega
  by_cases he : e2 = 0
  · subst he
    by_cases hlim : max lim 0 < (n : Int)
    · simp only [hlim, ne_eq, not_true_eq_false, if_true, if_false] at ht
      have HT := Lib.hid ht
      clear ht
      rcases Int.lt_or_le lim 0 with hneg | hneg
      all_goals go_wp2_with (first | (go_at_call 60; refine (err_any g bs 0 l2 lim _ HR1.out).mono ?_; rintro e w1 ⟨rfl, rfl⟩) | (go_at_call 61; refine (fail_any g 0 11 _ c0 fr0).mono ?_; rintro e w1 ⟨⟨v, rfl⟩, rfl⟩; simp only [if_true]))
      all_goals go_ret
      all_goals rw [HT.out]
      all_goals exact ⟨rfl, HR1.out.err 11, HM1.out.trans' (Mod.setCell _ _ _ (by simp))⟩
    · by_cases hlen : l2.length < n
      · simp only [hlim, hlen, ne_eq, not_true_eq_false, if_true, if_false] at ht
        have HT := Lib.hid ht
        clear ht
        have hlen' : ((l2.length : Nat) : Int) < (n : Int) := by omega
        have hw3 : IntKind.u64.wrap ((l2.length : Nat) : Int) = ((l2.length : Nat) : Int) := IntWalk.u64_in _ (by omega)
        have hneg : 0 ≤ lim := by omega
        have hlm : ¬ lim < (n : Int) := by omega
        all_goals go_wp2_with (first | (go_at_call 60; refine (err_any g bs 0 l2 lim _ HR1.out).mono ?_; rintro e w1 ⟨rfl, rfl⟩) | (go_at_call 61; refine (fail_any g 0 10 _ c0 fr0).mono ?_; rintro e w1 ⟨⟨v, rfl⟩, rfl⟩; simp only [if_true]))
        all_goals go_ret
        all_goals rw [HT.out]
        all_goals exact ⟨rfl, HR1.out.err 10, HM1.out.trans' (Mod.setCell _ _ _ (by simp))⟩
      · simp only [hlim, hlen, ne_eq, not_true_eq_false, if_false] at ht
        have HT := Lib.hid ht
        clear ht
        have hlen' : ¬ ((l2.length : Nat) : Int) < (n : Int) := by omega
        have hw3 : IntKind.u64.wrap ((l2.length : Nat) : Int) = ((l2.length : Nat) : Int) := IntWalk.u64_in _ (by omega)
        have hnl : n ≤ l2.length := by omega
        have htl : (l2.take n).length = n := by simp; omega
        have hdl : (l2.drop n).length = l2.length - n := by simp
        have HST := Lib.hid (HS.out.take n)
        by_cases hn : n = cap
        · have hl2c : l2.length = n := by omega
          have hd0 : l2.drop n = [] := List.drop_eq_nil_of_le (by omega)
          have ht0 : l2.take n = l2 := List.take_of_length_le (by omega)
          subst hn hl2c
          clear hlen hlen' hnl htl hdl h3
          go_wp2_with (first | (go_at_call 60; refine (err_any g bs 0 l2 lim _ HR1.out).mono ?_; rintro e w1 ⟨rfl, rfl⟩) | (refine wpl_str _ ao _ _ l2 rfl rfl HS.out (by rfl) ?_) | fail)
          all_goals go_ret
          all_goals rw [HT.out, hd0, ht0]
          all_goals exact ⟨rfl, HR1.out.pass (by simp) (by omega) (by omega) (Sees.nil _ _) (fun h => absurd rfl h), HM1.out.trans' (Mod.setCell _ _ _ (by simp))⟩
        · go_wp2_with (first | (go_at_call 60; refine (err_any g bs 0 l2 lim _ HR1.out).mono ?_; rintro e w1 ⟨rfl, rfl⟩) | (refine wpl_str _ ao n cap (l2.take n) rfl htl HST.out (by rfl) ?_) | fail)
          all_goals go_ret
          all_goals rw [HT.out]
          all_goals exact ⟨rfl, HR1.out.pass hdl (by omega) (by omega) (HS.out.dropMap n) (by intro h0 k hk; exact HB.out (fun h => h0 (by rw [h]; simp)) k (by rwa [blk_map] at hk)), HM1.out.trans' (Mod.setCell _ _ _ (by simp))⟩
  · simp only [he, ne_eq, not_false_eq_true, if_true] at ht
    have HT := Lib.hid ht
    clear ht
    go_wp2_with (go_at_call 60; refine (err_any g bs e2 l2 lim _ HR1.out).mono ?_; rintro e w1 ⟨rfl, rfl⟩)
    go_ret
    rw [HT.out]
    exact ⟨rfl, HR1.out, HM1.out⟩
/-- A new reader, of bytes that are seen. -/
theorem newReader_any (ao : Option Addr) (len cap : Nat) (l : List UInt8) (lim : Int) (w : World) (hl : l.length = len) (hc : len ≤ cap) (hm : cap ≤ 9223372036854775807) (hs : Sees w ao l) :
    Calls Tryd.prog 39 #[.slice ao len cap, .int .i64 lim] w fun r w' => ∃ g, r = .returned (.pointer (some ⟨g, 0, none⟩)) ∧ Rd w' g (blkOf ao l) 0 l lim ∧ Mod [] w w' ∧ w.heap.size ≤ g := by
  subst hl
  go_enter Tryd.func39, Tryd.ntmps39
  go_wp2
  go_ret
  exact ⟨w.heap.size, rfl, ⟨fun hk => Nat.lt_irrefl _ (hs.ltOf _ hk), ao, cap, heap_alloc_new w _, hc, hm, hs.mod0 (Mod.alloc _ _ _), blkOf_mem⟩, Mod.alloc _ _ _, Nat.le_refl _⟩
end Go.Proofs.YtekdnljincbghaaDoor
/- Plain laws: what is written is read, what is read is written. No program in sight. -/
namespace Go.Proofs.YtekdnljincbghaaDoor
open Go Go.RowKit

theorem pow_step (i : Nat) : 2 ^ (7 * (i + 1)) = 128 * 2 ^ (7 * i) := by rw [Nat.mul_add, Nat.pow_add, Nat.mul_comm]
theorem pow_back (i : Nat) (h : i ≤ 8) : 2 ^ (64 - 7 * i) = 128 * 2 ^ (64 - 7 * (i + 1)) := by
  have : 64 - 7 * i = 7 + (64 - 7 * (i + 1)) := by omega
  rw [this, Nat.pow_add]
theorem toNat_of (n : Nat) (h : n < 256) : (UInt8.ofNat n).toNat = n := by rw [UInt8.toNat_ofNat']; omega

theorem uintR_write (k : Nat) : ∀ (i acc v : Nat) (rest : List UInt8), i + k + 1 = 10 → v < 2 ^ (64 - 7 * i) → (0 < i → 0 < v) →
    uintR (k + 1) i acc (enc7 v ++ rest) = (acc + v * 2 ^ (7 * i), 0, rest) := by
  induction k with
  | zero =>
    intro i acc v rest hi hv h0
    have hi9 : i = 9 := by omega
    subst hi9
    have hv2 : v < 2 := by simpa using hv
    rw [enc7_small v (by omega)]
    have hn := toNat_of v (by omega)
    have := h0 (by omega)
    simp only [List.singleton_append, uintR, hn]
    rw [if_neg (by omega), if_pos (by omega), Nat.mod_eq_of_lt (by omega)]
  | succ k ih =>
    intro i acc v rest hi hv h0
    by_cases hs : v < 128
    · rw [enc7_small v hs]
      have hn := toNat_of v (by omega)
      simp only [List.singleton_append, uintR, hn]
      rw [if_neg (by rintro (⟨h, _⟩ | ⟨h, h2⟩); omega; have := h0 h; omega), if_pos hs, Nat.mod_eq_of_lt (by omega)]
    · have h64 : v < 18446744073709551616 := by
        have : 2 ^ (64 - 7 * i) ≤ 2 ^ 64 := Nat.pow_le_pow_right (by omega) (by omega)
        omega
      rw [enc7_big v (by omega) h64, List.cons_append]
      have hn := toNat_of (128 + v % 128) (by omega)
      have hu : uintR (k + 1 + 1) i acc (UInt8.ofNat (128 + v % 128) :: (enc7 (v / 128) ++ rest)) = uintR (k + 1) (i + 1) (acc + v % 128 * 2 ^ (7 * i)) (enc7 (v / 128) ++ rest) := by
        rw [uintR, hn, if_neg (by omega), if_neg (by omega), Nat.add_mod_left, Nat.mod_mod]
      have hb := pow_back i (by omega)
      rw [hu, ih (i + 1) _ (v / 128) rest (by omega) (by omega) (by omega), pow_step]
      have e : v % 128 * 2 ^ (7 * i) + v / 128 * (128 * 2 ^ (7 * i)) = v * 2 ^ (7 * i) := by
        rw [← Nat.mul_assoc, ← Nat.add_mul]
        congr 1
        omega
      rw [Nat.add_assoc, e]
theorem uintE_write (v : Nat) (rest : List UInt8) (h : v < 18446744073709551616) : uintE 10 0 0 0 (enc7 v ++ rest) = (v, 0, rest) := by
  have := uintR_write 9 0 0 v rest rfl (by simpa using h) (by omega)
  simpa [uintE] using this

theorem uintR_read (k : Nat) : ∀ (i acc n : Nat) (l r : List UInt8), i + k + 1 = 10 → uintR (k + 1) i acc l = (n, 0, r) →
    ∃ v, v < 2 ^ (64 - 7 * i) ∧ (0 < i → 0 < v) ∧ n = acc + v * 2 ^ (7 * i) ∧ l = enc7 v ++ r := by
  induction k with
  | zero =>
    intro i acc n l r hi h
    have hi9 : i = 9 := by omega
    subst hi9
    cases l with
    | nil => simp [uintR] at h
    | cons c l =>
      rw [uintR] at h
      split at h
      · simp at h
      · rename_i hbad
        split at h
        · simp only [Prod.mk.injEq, true_and] at h
          obtain ⟨rfl, rfl⟩ := h
          refine ⟨c.toNat, by simp; omega, by omega, ?_, ?_⟩
          · rw [Nat.mod_eq_of_lt (by omega)]
          · rw [enc7_small _ (by omega)]; simp
        · exfalso; omega
  | succ k ih =>
    intro i acc n l r hi h
    cases l with
    | nil => simp [uintR] at h
    | cons c l =>
      rw [uintR] at h
      split at h
      · simp at h
      · rename_i hbad
        have hb := pow_back i (by omega)
        have hpos : 0 < 2 ^ (64 - 7 * (i + 1)) := Nat.pow_pos (by omega)
        split at h
        · rename_i h128
          simp only [Prod.mk.injEq, true_and] at h
          obtain ⟨rfl, rfl⟩ := h
          refine ⟨c.toNat, by omega, by omega, ?_, ?_⟩
          · rw [Nat.mod_eq_of_lt h128]
          · rw [enc7_small _ h128]; simp
        · rename_i h128
          obtain ⟨v, hv, h0, rfl, rfl⟩ := ih _ _ _ _ _ (by omega) h
          have hc := c.toNat_lt
          have hv0 := h0 (by omega)
          have hp := pow_step i
          refine ⟨c.toNat % 128 + 128 * v, by omega, by omega, ?_, ?_⟩
          · rw [hp, Nat.add_mul, Nat.add_assoc]
            congr 2
            rw [Nat.mul_comm 128 v, Nat.mul_assoc]
          · have h64 : c.toNat % 128 + 128 * v < 18446744073709551616 := by
              have : 2 ^ (64 - 7 * i) ≤ 2 ^ 64 := Nat.pow_le_pow_right (by omega) (by omega)
              omega
            have e1 : (c.toNat % 128 + 128 * v) / 128 = v := by omega
            have e2 : 128 + (c.toNat % 128 + 128 * v) % 128 = c.toNat := by omega
            rw [enc7_big _ (by omega) h64, e1, e2]
            simp
theorem uintE_read (n : Nat) (l r : List UInt8) (h : uintE 10 0 0 0 l = (n, 0, r)) : l = enc7 n ++ r := by
  obtain ⟨v, _, _, h1, h2⟩ := uintR_read 9 0 0 n l r rfl (by simpa [uintE] using h)
  simp at h1
  rw [h1]; exact h2
theorem enc7_inj (n m : Nat) (hn : n < 18446744073709551616) (hm : m < 18446744073709551616) (h : enc7 n = enc7 m) : n = m := by
  have h1 := uintE_write n [] hn
  have h2 := uintE_write m [] hm
  rw [h, h2] at h1
  simp at h1
  exact h1.symm
theorem zag_zig (m : Int) : zag (zig m) = m := by
  unfold zag zig
  split <;> split <;> omega
/-- A text that is written, read. -/
theorem textR_write (lim : Int) (t rest : List UInt8) (h : (t.length : Int) ≤ lim) (h2 : t.length < 18446744073709551616) : textR lim 0 (enc7 t.length ++ t ++ rest) = (t, 0, rest) := by
  unfold textR
  rw [List.append_assoc, uintE_write _ _ h2]
  simp only [ne_eq, not_true_eq_false, if_false]
  rw [if_neg (by omega), if_neg (by simp)]
  simp
/-- Without its last byte. -/
theorem textR_short (lim : Int) (t : List UInt8) (h : (t.length : Int) ≤ lim) (h2 : t.length < 18446744073709551616) : (textR lim 0 (enc7 t.length ++ t).dropLast).2.1 = 10 := by
  by_cases ht : t = []
  · subst ht
    have : (enc7 ([] : List UInt8).length ++ []).dropLast = [] := by decide
    rw [this]
    rfl
  · have e : (enc7 t.length ++ t).dropLast = enc7 t.length ++ t.dropLast := by rw [List.dropLast_append_of_ne_nil ht]
    have hp : 0 < t.length := List.length_pos_iff.2 ht
    unfold textR
    rw [e, uintE_write _ _ h2]
    simp only [ne_eq, not_true_eq_false, if_false]
    rw [if_neg (by omega), if_pos (by simp; omega)]
end Go.Proofs.YtekdnljincbghaaDoor
/- The walk of ballot.Take. -/
namespace Go.Proofs.YtekdnljincbghaaDoor
open Go Go.RowKit Go.Lib

/-- A ballot that is read: the number, whose, the error; what is left. -/
def takeB (e : Int) (l : List UInt8) : Nat × Nat × Int × Int × List UInt8 :=
  if (uintE 10 0 0 (uintE 10 0 0 e l).2.1 (uintE 10 0 0 e l).2.2).2.1 ≠ 0 then (0, 0, (uintE 10 0 0 (uintE 10 0 0 e l).2.1 (uintE 10 0 0 e l).2.2).2.1, (uintE 10 0 0 (uintE 10 0 0 e l).2.1 (uintE 10 0 0 e l).2.2).2)
  else if 7 ≤ (uintE 10 0 0 (uintE 10 0 0 e l).2.1 (uintE 10 0 0 e l).2.2).1 then (0, 0, 11, (uintE 10 0 0 (uintE 10 0 0 e l).2.1 (uintE 10 0 0 e l).2.2).2)
  else ((uintE 10 0 0 e l).1, (uintE 10 0 0 (uintE 10 0 0 e l).2.1 (uintE 10 0 0 e l).2.2).1, 0, (uintE 10 0 0 (uintE 10 0 0 e l).2.1 (uintE 10 0 0 e l).2.2).2)
set_option maxHeartbeats 1000000 in
theorem take_any (g : Nat) (bs : List Nat) (e : Int) (l : List UInt8) (lim : Int) (w : World) (h : Rd w g bs e l lim) (hb : ∀ k, k ∈ bs → k < w.heap.size) :
    Calls Tryd.prog 71 #[.pointer (some ⟨g, 0, none⟩)] w fun r w' => r = .returned (.tuple #[.agg #[.int .u64 ((takeB e l).1 : Int), .int .i64 ((takeB e l).2.1 : Int)], .int .i64 (takeB e l).2.2.1]) ∧ Rd w' g bs (takeB e l).2.2.2.1 (takeB e l).2.2.2.2 lim ∧ Mod [g] w w' := by
  obtain ⟨⟨n1, e1, l1⟩, hu1⟩ : ∃ p, uintE 10 0 0 e l = p := ⟨_, rfl⟩
  obtain ⟨⟨n2, e2, l2⟩, hu2⟩ : ∃ p, uintE 10 0 0 e1 l1 = p := ⟨_, rfl⟩
  have HT : Hid (takeB e l = if e2 ≠ 0 then (0, 0, e2, e2, l2) else if 7 ≤ n2 then (0, 0, 11, e2, l2) else (n1, n2, 0, e2, l2)) := by
    show takeB e l = _
    unfold takeB
    rw [hu1]
    dsimp only
    rw [hu2]
  have HG := Lib.hid (show g < w.heap.size from h.lt)
  have H := Lib.hid h
  have HU1 := Lib.hid hu1
  have HU2 := Lib.hid hu2
  clear h hu1 hu2
  go_enter Tryd.func71, Tryd.ntmps71
  go_wp2_with fail
  refine (ruint_any g bs e l lim _ (H.out.mod0 (Mod.alloc [] w _))).mono ?_
  rw [HU1.out]
  rintro r w1 ⟨rfl, r1, m1⟩
  have R1 := Lib.hid r1
  have A0 : Hid (w1.cell? ⟨w.heap.size, 0, none⟩ = some (.int .u64 0)) := m1.cell (by go_cell) (by have := HG.out; simp; omega)
  have A1 : Hid (w1.cell? ⟨w.heap.size, 1, none⟩ = some (.int .i64 0)) := m1.cell (by go_cell) (by have := HG.out; simp; omega)
  have F0 : Hid (∀ i, w1.frozen? ⟨w.heap.size, i, none⟩ = false) := fun i => by
    show w1.frozen? _ = _
    rw [m1.frozen (by simp) (by have := HG.out; simp; omega)]; exact free_of_block (heap_alloc_new w _)
  have M1 := Lib.hid ((Mod.alloc [g] w (.cells #[.int .u64 0, .int .i64 0] 24)).trans' m1)
  have HS1 := Lib.hid (show w.heap.size < w1.heap.size from World.block_lt_of_cell? w1 _ A0.out)
  clear r1 m1 H
  go_wp2_with fail
  refine (ruint_any g bs e1 l1 lim _ R1.out).mono ?_
  rw [HU2.out]
  rintro r w2 ⟨rfl, r2, m2⟩
  have R2 := Lib.hid r2
  have B0 := Lib.hid (m2.cell A0.out (by have := HG.out; simp; omega))
  have B1 := Lib.hid (m2.cell A1.out (by have := HG.out; simp; omega))
  have G0 : Hid (∀ i, w2.frozen? ⟨w.heap.size, i, none⟩ = false) := fun i => by
    show w2.frozen? _ = _
    rw [m2.frozen HS1.out (by have := HG.out; simp; omega)]; exact F0.out i
  have M2 := Lib.hid (M1.out.trans' m2)
  clear r2 m2 R1 A0 A1 F0 M1 HS1
  go_wp2_with fail
  refine (err_any g bs _ _ lim _ R2.out).mono ?_
  rintro r w3 ⟨rfl, rfl⟩
  have b0 := B0.out
  have b1 := B1.out
  have f0 := G0.out 0
  have f1 := G0.out 1
  have hgn := Lib.hid (show w.heap.size ∉ bs from fun hm => Nat.lt_irrefl _ (hb _ hm))
  have hgg := Lib.hid (show g ≠ w.heap.size by have := HG.out; omega)
  clear B0 B1 G0 HU1 HU2 hb
  by_cases he : e2 = 0
  · subst he
    by_cases h7 : 7 ≤ n2
    · have hv := HT.out
      rw [if_neg (by simp), if_pos h7] at hv
      have HV := Lib.hid hv
      clear hv HT
      go_wp2
      ((try simp only [Exit.inBlock, Exit.then]); refine bodyPost_ret (by simp [results, Tryd.results71, go_sem, *]; try rfl) rfl ?_)
      rw [HV.out]
      exact ⟨rfl, (R2.out.mod (two_mod _ _ _ _) (by simpa using hgg.out) (fun k hk h => hgn.out (by simp only [List.mem_singleton] at h; subst h; exact hk))), (M2.out.trans (two_mod _ _ _ _) (by simp))⟩
    · have hv := HT.out
      rw [if_neg (by simp), if_neg h7] at hv
      have HV := Lib.hid hv
      have hw : IntKind.i64.wrap (n2 : Int) = (n2 : Int) := IntWalk.i64_in _ (by omega)
      clear hv HT
      go_wp2
      ((try simp only [Exit.inBlock, Exit.then]); refine bodyPost_ret (by simp [results, Tryd.results71, go_sem, *]; try rfl) rfl ?_)
      rw [HV.out]
      exact ⟨rfl, (R2.out.mod (two_mod _ _ _ _) (by simpa using hgg.out) (fun k hk h => hgn.out (by simp only [List.mem_singleton] at h; subst h; exact hk))), (M2.out.trans (two_mod _ _ _ _) (by simp))⟩
  · have hv := HT.out
    rw [if_pos he] at hv
    have HV := Lib.hid hv
    clear hv HT
    go_wp2
    ((try simp only [Exit.inBlock, Exit.then]); refine bodyPost_ret (by simp [results, Tryd.results71, go_sem, *]; try rfl) rfl ?_)
    rw [HV.out]
    exact ⟨rfl, (R2.out.mod (two_mod _ _ _ _) (by simpa using hgg.out) (fun k hk h => hgn.out (by simp only [List.mem_singleton] at h; subst h; exact hk))), (M2.out.trans (two_mod _ _ _ _) (by simp))⟩
end Go.Proofs.YtekdnljincbghaaDoor
/- Rows of the call's own whose elements have one cell each, by what they show. Over any program. -/
namespace Go.Proofs.YtekdnljincbghaaDoor
open Go Go.RowKit

/-- A row of elements of one cell each; f says what a cell holds. -/
def OwnM {α : Type} (f : α → Value) (w : World) (e : TypeId) (ao : Option Addr) (cap : Nat) (l : List α) : Prop := Own w e 1 ao l.length cap (l.map f)
section
variable {α : Type} {f : α → Value} {w w' : World} {e : TypeId} {ao : Option Addr} {cap : Nat} {l : List α}
theorem OwnM.nil (f : α → Value) (w : World) (e : TypeId) : OwnM f w e none 0 [] := Own.nil0 w e 1
theorem OwnM.mod {S : List Nat} (h : OwnM f w e ao cap l) (hm : Mod S w w') (hn : ∀ k, k ∈ blk ao → k ∉ S) : OwnM f w' e ao cap l := Own.mod h hm hn
theorem OwnM.mod0 (h : OwnM f w e ao cap l) (hm : Mod [] w w') : OwnM f w' e ao cap l := Own.mod0 h hm
theorem OwnM.lt (h : OwnM f w e ao cap l) : ∀ k, k ∈ blk ao → k < w.heap.size := Own.lt h
theorem OwnM.le (h : OwnM f w e ao cap l) : l.length ≤ cap := Own.le h
theorem OwnM.at' (h : OwnM f w e ao cap l) {j : Nat} (hj : j < l.length) : ∃ g, ao = some ⟨g, 0, none⟩ ∧ w.cell? ⟨g, j, none⟩ = some (f l[j]) ∧ w.frozen? ⟨g, j, none⟩ = false :=
  Own.cell h (j := j) (u := f l[j]) (by rw [List.getElem?_map, List.getElem?_eq_getElem hj]; rfl)
theorem OwnM.set {g j : Nat} (h : OwnM f w e (some ⟨g, 0, none⟩) cap l) (x : α) : OwnM f (w.setCell ⟨g, j, none⟩ (f x)) e (some ⟨g, 0, none⟩) cap (l.set j x) := by
  have := Own.set (j := j) h (f x)
  unfold OwnM
  rw [List.length_set, List.map_set]
  exact this
theorem OwnM.shows (h : OwnM f w e ao cap l) : Shows w ao (l.map f) := Own.shows h
theorem OwnM.tail {x : α} (h : OwnM f w e ao cap (x :: l)) : ∃ g, ao = some ⟨g, 0, none⟩ ∧ (l ≠ [] → 1 < cap) ∧ Shows w (some ⟨g, 1, none⟩) (l.map f) := by
  obtain ⟨g, rfl, _⟩ := h.at' (j := 0) (by simp)
  refine ⟨g, rfl, fun hl => ?_, ?_⟩
  · have := h.le
    have := List.length_pos_iff.2 hl
    simp at *
    omega
  · intro j u hj
    obtain ⟨ad, e1, e2⟩ := h.shows (j + 1) u (by simpa using hj)
    cases e1
    refine ⟨_, rfl, ?_⟩
    rw [Addr.add_lit] at e2 ⊢
    rw [show 1 + j = 0 + (j + 1) by omega]
    exact e2
theorem shows_one {g : Nat} {t : TypeId} {z : Nat × Nat} {x : α} (h : w.heap[g]? = some (.cells #[f x] t z)) : Shows w (some ⟨g, 0, none⟩) ([x].map f) := by
  intro j u hj
  refine ⟨_, rfl, ?_⟩
  rw [Addr.add_lit, cell_of_block h, Nat.zero_add, ← hj]
  simp
theorem Shows.nil (w : World) (ao : Option Addr) : Shows w ao [] := fun j u hj => by simp at hj
theorem OwnM.one {g : Nat} {x : α} (h : w.heap[g]? = some (.cells #[f x] e (0, 0))) : OwnM f w e (some ⟨g, 0, none⟩) 1 [x] :=
  Own.new (sz := 1) (n := 1) h (.inl rfl) (by simp) (by unfold maxLen; omega)
/-- append to such a row. -/
theorem wpl_appM {P : Program} {ops : Array Oper} {rest : List Oper} {a : Act} {Q : Exit → Act → World → Prop} {dst : Option Tmp} {ty : TypeId} {pos : String} {after : Array Edge} (s x : Operand) (t : TypeId)
    (z : Value) (bytes : Nat) (ht : P.underlying t = some (.slice e)) (hi : (P.info? e).map (fun i => (i.zero, i.size, i.bytes)) = some (some z, 1, bytes)) (hzs : z.cells.size = 1) (h1 : ∀ x, (f x).oneCell' = true)
    (n : Nat) (xs : List α) (hs : a.eval s = .slice ao n cap) (hn : xs.length = n) (hown : OwnM f w e ao cap xs)
    (so : Option Addr) (m c : Nat) (ys : List α) (hx : a.eval x = .slice so m c) (hm : ys.length = m) (hsh : Shows w so (ys.map f)) (hb : (n + m) * bytes ≤ 140737488355328) (hb2 : n + m ≤ 140737488355328)
    (h : ∀ ao' cap' w', OwnM f w' e ao' cap' (xs ++ ys) → Mod (blk ao) w w' → SameOrNew w w' ao ao' → wpList P ops Q rest (a.put dst (.slice ao' (n + m) cap')) w') :
    wpList P ops Q (⟨dst, .call { callee := .builtin .append, args := #[s, x], argTypes := #[t, t] }, ty, pos, after, none⟩ :: rest) a w := by
  obtain ⟨i0, hi, hz0, hz1, hz2⟩ := info_parts hi
  subst hn hm
  refine wpl_append w rfl s x t rfl e i0 z 1 bytes ht hi hz0 hz1 hz2 hzs (by decide) ao _ cap _ hs hown so _ c (ys.map f) hx (by simp) hsh ?_ (by unfold maxLen; omega) hb ?_
  · intro u hu
    obtain ⟨x, _, rfl⟩ := List.mem_map.1 hu
    exact h1 x
  · intro ao' cap' w' h1 h2 h3
    refine h ao' cap' w' ?_ h2 h3
    unfold OwnM
    rw [List.length_append, List.map_append]
    exact h1
end
/-- Two rows lie apart. -/
def Dis (x y : Option Addr) : Prop := ∀ j, j ∈ blk x → j ∉ blk y
theorem Dis.symm {x y : Option Addr} (h : Dis x y) : Dis y x := fun j hj hk => h j hk hj
theorem Dis.new {x x' y : Option Addr} {w w' : World} (h : Dis x y) (s : SameOrNew w w' x x') (hl : ∀ j, j ∈ blk y → j < w.heap.size) : Dis x' y := fun j hj hk => by
  rcases s.blk j hj with h1 | h1
  · exact h j h1 hk
  · have := hl j hk; omega
theorem Dis.fresh {x y : Option Addr} {B : Nat} (h : ∀ j, j ∈ blk x → B ≤ j) (hl : ∀ j, j ∈ blk y → j < B) : Dis x y := fun j hj hk => by
  have := h j hj; have := hl j hk; omega
theorem off_new {g : Nat} {x x' : Option Addr} {w w' : World} (h : g ∉ blk x) (s : SameOrNew w w' x x') (hl : g < w.heap.size) : g ∉ blk x' := fun hj => by
  rcases s.blk g hj with h1 | h1
  · exact h h1
  · omega
theorem Dis.sing {g : Nat} {y : Option Addr} (h : Dis (some ⟨g, 0, none⟩) y) : g ∉ blk y := h g (by simp [blk])
end Go.Proofs.YtekdnljincbghaaDoor
/- A message that is read: what a taker holds and reads; the walks of its methods. -/
namespace Go.Proofs.YtekdnljincbghaaDoor
open Go Go.RowKit Go.Lib

/-- A taker: the reader's error, what is left, whether something was bad. -/
structure St where
  e : Int
  l : List UInt8
  bad : Bool
def St.uint (s : St) : Nat × St := ((uintE 10 0 0 s.e s.l).1, ⟨(uintE 10 0 0 s.e s.l).2.1, (uintE 10 0 0 s.e s.l).2.2, s.bad⟩)
def St.ball (s : St) : (Nat × Nat) × St := (((takeB s.e s.l).1, (takeB s.e s.l).2.1), ⟨(takeB s.e s.l).2.2.2.1, (takeB s.e s.l).2.2.2.2, s.bad || (takeB s.e s.l).2.2.1 != 0⟩)
def St.text (lim : Int) (s : St) : List UInt8 × St := ((textR lim s.e s.l).1, ⟨(textR lim s.e s.l).2.1, (textR lim s.e s.l).2.2, s.bad⟩)
def St.vote (lim : Int) (s : St) : (Vd × List UInt8) × St :=
  ((⟨s.uint.1, s.uint.2.ball.1.1, (s.uint.2.ball.1.2 : Int)⟩, (s.uint.2.ball.2.text lim).1), (s.uint.2.ball.2.text lim).2)
/-- So many, one behind the other. -/
def St.rep {α : Type} (f : St → α × St) : Nat → St → List α × St
  | 0, s => ([], s)
  | k + 1, s => ((St.rep f k s).1 ++ [(f (St.rep f k s).2).1], (f (St.rep f k s).2).2)
def St.rows {α : Type} (most : Nat) (f : St → α × St) (s : St) : List α × St :=
  if most < s.uint.1 then ([], ⟨s.uint.2.e, s.uint.2.l, true⟩) else St.rep f s.uint.1 s.uint.2
/-- A taker in memory. -/
structure TkS (w : World) (tk g : Nat) (bs : List Nat) (lim : Int) (s : St) : Prop where
  rd : Rd w g bs s.e s.l lim
  at0 : w.heap[tk]? = some (.cells #[.pointer (some ⟨g, 0, none⟩), .bool s.bad] 75 (0, 0))
  ne : tk ≠ g
  nb : tk ∉ bs
  lt : ∀ k, k ∈ bs → k < w.heap.size
theorem TkS.mod {S : List Nat} {w w' : World} {tk g : Nat} {bs : List Nat} {lim : Int} {s : St} (h : TkS w tk g bs lim s) (m : Mod S w w') (h1 : tk ∉ S) (h2 : g ∉ S) (h3 : ∀ k, k ∈ bs → k ∉ S) : TkS w' tk g bs lim s :=
  ⟨h.rd.mod m h2 h3, m.get h.at0 h1, h.ne, h.nb, fun k hk => Nat.lt_of_lt_of_le (h.lt k hk) m.size⟩
theorem TkS.mod0 {w w' : World} {tk g : Nat} {bs : List Nat} {lim : Int} {s : St} (h : TkS w tk g bs lim s) (m : Mod [] w w') : TkS w' tk g bs lim s := h.mod m List.not_mem_nil List.not_mem_nil (fun _ _ => List.not_mem_nil)
theorem TkS.off {S : List Nat} {W w w' : World} {tk g : Nat} {bs : List Nat} {lim : Int} {s : St} (h : TkS w tk g bs lim s) (m : Mod S w w') (h1 : tk < W.heap.size) (h2 : g < W.heap.size) (h3 : ∀ k, k ∈ bs → k < W.heap.size) (hS : ∀ k, k ∈ S → W.heap.size ≤ k) : TkS w' tk g bs lim s :=
  h.mod m (fun h => by have := hS _ h; omega) (fun h => by have := hS _ h; omega) (fun k hk h => by have := hS _ h; have := h3 k hk; omega)
theorem TkS.read {w w' : World} {tk g : Nat} {bs : List Nat} {lim : Int} {s : St} {e' : Int} {l' : List UInt8} (h : TkS w tk g bs lim s) (r : Rd w' g bs e' l' lim) (m : Mod [g] w w') : TkS w' tk g bs lim ⟨e', l', s.bad⟩ :=
  ⟨r, m.get h.at0 (by simpa using h.ne), h.ne, h.nb, fun k hk => Nat.lt_of_lt_of_le (h.lt k hk) m.size⟩
theorem TkS.set {w : World} {tk g : Nat} {bs : List Nat} {lim : Int} {s : St} (h : TkS w tk g bs lim s) (b : Bool) : TkS (w.setCell ⟨tk, 1, none⟩ (.bool b)) tk g bs lim ⟨s.e, s.l, b⟩ := by
  have m : Mod [tk] w (w.setCell ⟨tk, 1, none⟩ (.bool b)) := Mod.setCell w _ _ (by simp)
  have hg : g ∉ [tk] := by simp; exact fun h' => h.ne h'.symm
  refine ⟨h.rd.mod m hg (fun k hk hs => ?_), heap_setCell_same h.at0 _, h.ne, h.nb, fun k hk => Nat.lt_of_lt_of_le (h.lt k hk) m.size⟩
  simp only [List.mem_singleton] at hs
  subst hs
  exact h.nb hk
theorem TkS.tlt {w : World} {tk g : Nat} {bs : List Nat} {lim : Int} {s : St} (h : TkS w tk g bs lim s) : tk < w.heap.size ∧ g < w.heap.size := ⟨lt_of_block h.at0, h.rd.lt⟩

set_option maxRecDepth 100000 in
theorem tball_any (tk g : Nat) (bs : List Nat) (lim : Int) (s : St) (w : World) (h : TkS w tk g bs lim s) :
    Calls Tryd.prog 62 #[.pointer (some ⟨tk, 0, none⟩)] w fun e w' => e = .returned (.agg #[.int .u64 (s.ball.1.1 : Int), .int .i64 (s.ball.1.2 : Int)]) ∧ TkS w' tk g bs lim s.ball.2 ∧ Mod [g, tk] w w' := by
  obtain ⟨e, l, bad⟩ := s
  have hlt := h.tlt
  have m1 := Mod.alloc [] w (.cells #[.int .u64 0, .int .i64 0] 24)
  have hb1 := heap_alloc_new w (.cells #[.int .u64 0, .int .i64 0] 24)
  obtain ⟨w1, hw1⟩ : ∃ x, w.alloc (.cells #[.int .u64 0, .int .i64 0] 24) = x := ⟨_, rfl⟩
  rw [hw1] at m1 hb1
  have T1 := Lib.hid (h.mod0 m1)
  have HB1 := Lib.hid hb1
  have M1 := Lib.hid m1
  have HLT := Lib.hid h.lt
  have t0 := cell_of_block (i := 0) T1.out.at0
  have HT := Lib.hid (take_any g bs e l lim w1 T1.out.rd T1.out.lt)
  have HS : Hid ((⟨e, l, bad⟩ : St).ball = (((takeB e l).1, (takeB e l).2.1), ⟨(takeB e l).2.2.2.1, (takeB e l).2.2.2.2, bad || (takeB e l).2.2.1 != 0⟩)) := Lib.hid rfl
  obtain ⟨⟨n, r, er, e2, l2⟩, htx⟩ : ∃ x, takeB e l = x := ⟨_, rfl⟩
  rw [htx] at HT HS
  dsimp only at HT HS
  rw [HS.out]
  clear h m1 hb1 htx HS
  go_enter Tryd.func62, Tryd.ntmps62
  go_wp2_with fail
  refine HT.out.mono ?_
  rintro r' w2 ⟨rfl, r2, m2⟩
  have T2 := Lib.hid (T1.out.read r2 m2)
  dsimp only at T2
  have hg1 : w.heap.size ∉ [g] := by simp; omega
  have HB2 := Lib.hid (m2.get HB1.out hg1)
  have M2 := Lib.hid (M1.out.nil.trans' m2)
  have hz2 : w.heap.size < w2.heap.size := by have := M1.out.size; have := m2.size; have := lt_of_block HB1.out; omega
  have m3 := Mod.alloc [] w2 (.cells #[.int .u64 (n : Int), .int .i64 (r : Int)] 24)
  have hb3 := heap_alloc_new w2 (.cells #[.int .u64 (n : Int), .int .i64 (r : Int)] 24)
  obtain ⟨w3, hw3⟩ : ∃ x, w2.alloc (.cells #[.int .u64 (n : Int), .int .i64 (r : Int)] 24) = x := ⟨_, rfl⟩
  rw [hw3] at m3 hb3
  have T3 := Lib.hid (T2.out.mod0 m3)
  have HB3 := Lib.hid (m3.get HB2.out List.not_mem_nil)
  have M3 := Lib.hid (M2.out.trans0 m3)
  clear r2 m2 m3 T1 T2 HB1 HB2 M1 M2 t0 HT hw1
  have t1 := cell_of_block (i := 1) T3.out.at0
  have ft := free_of_block (i := 1) T3.out.at0
  have d0 := cell_of_block (i := 0) hb3
  have d1 := cell_of_block (i := 1) hb3
  obtain ⟨q, hq⟩ : ∃ q, (er != 0) = q := ⟨_, rfl⟩
  have HQ := Lib.hid hq
  have hr0 := cell_of_block (i := 0) HB3.out
  have hr1 := cell_of_block (i := 1) HB3.out
  have fr0 := free_of_block (i := 0) HB3.out
  have fr1 := free_of_block (i := 1) HB3.out
  have HE : ∀ b : Bool, TkS (((w3.setCell ⟨tk, 1, none⟩ (.bool b)).setCell ⟨w.heap.size, 0, none⟩ (.int .u64 (n : Int))).setCell ⟨w.heap.size, 1, none⟩ (.int .i64 (r : Int))) tk g bs lim ⟨e2, l2, b⟩ ∧ Mod [g, tk] w (((w3.setCell ⟨tk, 1, none⟩ (.bool b)).setCell ⟨w.heap.size, 0, none⟩ (.int .u64 (n : Int))).setCell ⟨w.heap.size, 1, none⟩ (.int .i64 (r : Int))) := fun b => by
    have hn : tk ≠ w.heap.size ∧ g ≠ w.heap.size := by omega
    have m1 : Mod [w.heap.size] (w3.setCell ⟨tk, 1, none⟩ (.bool b)) (((w3.setCell ⟨tk, 1, none⟩ (.bool b)).setCell ⟨w.heap.size, 0, none⟩ (.int .u64 (n : Int))).setCell ⟨w.heap.size, 1, none⟩ (.int .i64 (r : Int))) :=
      (Mod.setCell _ _ _ (by simp)).trans' (Mod.setCell _ _ _ (by simp))
    have m0 : Mod [g, tk] w (w3.setCell ⟨tk, 1, none⟩ (.bool b)) := (M3.out.weaken (by simp)).trans' (Mod.setCell _ _ _ (by simp))
    refine ⟨(T3.out.set b).mod m1 (by simp; exact hn.1) (by simp; exact hn.2) (fun k hk h => ?_), m0.trans m1 (by simp)⟩
    simp only [List.mem_singleton] at h
    exact absurd (HLT.out k hk) (by omega)
  clear hb3 hq
  have HEH := Lib.hid HE
  clear HE
  go_wp2_with fail
  · refine bodyPost_ret (by simp [results, Tryd.results62, go_sem, *]; try rfl) rfl ?_
    have hE := HEH.out true
    rename_i hbad
    subst hbad
    exact ⟨rfl, by simpa using hE.1, hE.2⟩
  · refine bodyPost_ret (by simp [results, Tryd.results62, go_sem, *]; try rfl) rfl ?_
    have hE := HEH.out q
    rename_i hbad
    have hbad' : bad = false := by simpa using hbad
    subst hbad'
    rw [← HQ.out] at hE
    refine ⟨rfl, ?_, ?_⟩
    · rw [HQ.out]
      rw [HQ.out] at hE
      simpa using hE.1
    · have h2 := hE.2
      rw [HQ.out] at h2 ⊢
      exact h2

/-- Bytes of the call's own. -/
def NewB (B : Nat) (w : World) (b : Bs) : Prop := OwnB w b.2.1 b.2.2 b.1 ∧ ∀ k, k ∈ blk b.2.1 → B ≤ k
theorem NewB.mod {B : Nat} {S : List Nat} {w w' : World} {b : Bs} (h : NewB B w b) (m : Mod S w w') (hn : ∀ k, k ∈ blk b.2.1 → k ∉ S) : NewB B w' b := ⟨h.1.mod m hn, h.2⟩
theorem NewB.off {B : Nat} {S : List Nat} {w w' : World} {b : Bs} (h : NewB B w b) (m : Mod S w w') (hS : ∀ k, k ∈ S → k < B) : NewB B w' b := h.mod m (fun k hk hs => by have := h.2 k hk; have := hS k hs; omega)
theorem NewB.mod0 {B : Nat} {w w' : World} {b : Bs} (h : NewB B w b) (m : Mod [] w w') : NewB B w' b := h.mod m (fun _ _ => List.not_mem_nil)
theorem NewB.grow {B B' : Nat} {w : World} {b : Bs} (h : NewB B w b) (hb : B' ≤ B) : NewB B' w b := ⟨h.1, fun k hk => Nat.le_trans hb (h.2 k hk)⟩
theorem NewB.lt {B : Nat} {w : World} {b : Bs} (h : NewB B w b) : ∀ k, k ∈ blk b.2.1 → k < w.heap.size := Own.lt h.1
theorem NewB.le {B : Nat} {w : World} {b : Bs} (h : NewB B w b) : b.1.length ≤ b.2.2 := Own.le h.1

theorem uintR_le (k : Nat) : ∀ (i n : Nat) (l : List UInt8), (uintR k i n l).2.2.length ≤ l.length := by
  induction k with
  | zero => intro i n l; simp [uintR]
  | succ k ih =>
    intro i n l
    cases l with
    | nil => simp [uintR]
    | cons c r =>
      unfold uintR
      split
      · simp
      · split
        · simp
        · have := ih (i + 1) (n + c.toNat % 128 * 2 ^ (7 * i)) r
          simp only [List.length_cons]
          omega
theorem uintE_le (e : Int) (l : List UInt8) : (uintE 10 0 0 e l).2.2.length ≤ l.length := by
  unfold uintE
  split
  · exact uintR_le _ _ _ _
  · exact Nat.le_refl _
theorem textR_le (lim e : Int) (l : List UInt8) : (textR lim e l).1.length ≤ l.length := by
  have := uintE_le e l
  unfold textR
  split
  · simp
  · split
    · simp
    · split
      · simp
      · simp only [List.length_take]
        omega

set_option maxRecDepth 100000 in
theorem ttext_any (tk g : Nat) (bs : List Nat) (lim : Int) (s : St) (w : World) (h : TkS w tk g bs lim s) (hl1 : -9223372036854775808 ≤ lim) (hl2 : lim ≤ 9223372036854775807) :
    Calls Tryd.prog 63 #[.pointer (some ⟨tk, 0, none⟩)] w fun e w' => ∃ ao cap, e = .returned (bsV ((s.text lim).1, ao, cap)) ∧ NewB w.heap.size w' ((s.text lim).1, ao, cap) ∧ TkS w' tk g bs lim (s.text lim).2 ∧ Mod [g, tk] w w' := by
  obtain ⟨e, l, bad⟩ := s
  have H := Lib.hid h
  have t0 := cell_of_block (i := 0) h.at0
  have HT := Lib.hid (rtext_any g bs e l lim w h.rd hl1 hl2)
  have HS : Hid ((⟨e, l, bad⟩ : St).text lim = ((textR lim e l).1, ⟨(textR lim e l).2.1, (textR lim e l).2.2, bad⟩)) := Lib.hid rfl
  rw [HS.out]
  dsimp only
  have hsz : (textR lim e l).1.length ≤ 9223372036854775807 := by
    obtain ⟨_, ao, cap, _, h1, h2, _⟩ := h.rd
    have := textR_le lim e l
    dsimp only at h1
    omega
  obtain ⟨⟨t, e2, l2⟩, htx⟩ : ∃ x, textR lim e l = x := ⟨_, rfl⟩
  rw [htx] at HT hsz ⊢
  dsimp only at HT hsz ⊢
  have HSZ := Lib.hid hsz
  clear h htx HS hsz
  go_enter Tryd.func63, Tryd.ntmps63
  go_wp2_with fail
  refine HT.out.mono ?_
  rintro r' w2 ⟨rfl, r2, m2⟩
  have T2 := Lib.hid (H.out.read r2 m2)
  dsimp only at T2
  have M2 := Lib.hid m2
  clear r2 m2 t0 HT
  have hst : (⟨t.toArray⟩ : ByteArray).size = t.length := by simp [ByteArray.size]
  unfold strV
  go_wp2_with (refine wpl_bytes _ _ rfl ?_ (by rfl) ?_)
  · rw [hst]
    exact HSZ.out
  intro g3 cap3 w3 o3 m3 n3
  have hB : NewB w.heap.size w3 (t, some ⟨g3, 0, none⟩, cap3) := by
    refine ⟨by simpa using o3, fun k hk => ?_⟩
    simp [blk] at hk
    have := M2.out.size
    omega
  have HB := Lib.hid hB
  have T3 := Lib.hid (T2.out.mod0 m3)
  have M3 := Lib.hid ((M2.out.weaken (S' := [g, tk]) (by simp)).trans0 m3)
  clear o3 m3 n3 hB T2 M2
  go_wp2_with fail
  go_ret
  exact ⟨some ⟨g3, 0, none⟩, cap3, rfl, HB.out, T3.out, M3.out⟩
/-- Two boxes of a call that reads. -/
structure TB (w : World) (tk g : Nat) (bs : List Nat) (lim : Int) (t : TypeId) (s : St) (c0 c1 : Array Value) (wr : World) : Prop where
  st : TkS wr tk g bs lim s
  b0 : wr.heap[w.heap.size]? = some (.cells c0 t (0, 0))
  b1 : wr.heap[w.heap.size + 1]? = some (.cells c1 t (0, 0))
  mod : Mod [g, tk] w wr
  lt : tk < w.heap.size ∧ g < w.heap.size ∧ ∀ k, k ∈ bs → k < w.heap.size
theorem TB.start {w : World} {tk g : Nat} {bs : List Nat} {lim : Int} {s : St} (h : TkS w tk g bs lim s) (t : TypeId) (c0 c1 : Array Value) :
    ∃ w1, (w.alloc (.cells c0 t)).alloc (.cells c1 t) = w1 ∧ TB w tk g bs lim t s c0 c1 w1 := by
  have m1 := Mod.alloc [] w (.cells c0 t)
  have m2 := Mod.alloc [] (w.alloc (.cells c0 t)) (.cells c1 t)
  refine ⟨_, rfl, h.mod0 (m1.trans' m2), m2.get (heap_alloc_new w _) List.not_mem_nil, ?_, (m1.trans' m2).nil, h.tlt.1, h.tlt.2, h.lt⟩
  have := heap_alloc_new (w.alloc (.cells c0 t)) (.cells c1 t)
  rwa [show (w.alloc (.cells c0 t)).heap.size = w.heap.size + 1 by simp] at this
section
variable {w wr w' : World} {tk g : Nat} {bs : List Nat} {lim : Int} {t : TypeId} {s s' : St} {c0 c1 : Array Value}
theorem TB.read (h : TB w tk g bs lim t s c0 c1 wr) (r : TkS w' tk g bs lim s') (m : Mod [g, tk] wr w') : TB w tk g bs lim t s' c0 c1 w' :=
  ⟨r, m.get h.b0 (by have := h.lt; simp; omega), m.get h.b1 (by have := h.lt; simp; omega), h.mod.trans' m, h.lt⟩
theorem TB.off {S : List Nat} (h : TB w tk g bs lim t s c0 c1 wr) (m : Mod S wr w') (hS : ∀ k, k ∈ S → w.heap.size + 2 ≤ k) : TB w tk g bs lim t s c0 c1 w' :=
  ⟨h.st.mod m (fun hk => by have := hS _ hk; have := h.lt; omega) (fun hk => by have := hS _ hk; have := h.lt; omega) (fun k hk hm => by have := hS _ hm; have := h.lt.2.2 k hk; omega), m.get h.b0 (fun hk => by have := hS _ hk; omega), m.get h.b1 (fun hk => by have := hS _ hk; omega),
   h.mod.trans m (fun i hi hl => by have := hS i hi; omega), h.lt⟩
theorem TB.set0 (h : TB w tk g bs lim t s c0 c1 wr) (i : Nat) (v : Value) : TB w tk g bs lim t s (c0.setIfInBounds i v) c1 (wr.setCell ⟨w.heap.size, i, none⟩ v) := by
  have m : Mod [w.heap.size] wr (wr.setCell ⟨w.heap.size, i, none⟩ v) := Mod.setCell wr _ _ (by simp)
  have hl := h.lt
  exact ⟨h.st.mod m (by simp; omega) (by simp; omega) (fun k hk hm => by have := hl.2.2 k hk; simp at hm; omega), heap_setCell_same h.b0 v, m.get h.b1 (by simp), h.mod.trans m (by intro i hi hl; simp at hi; omega), hl⟩
theorem TB.set1 (h : TB w tk g bs lim t s c0 c1 wr) (i : Nat) (v : Value) : TB w tk g bs lim t s c0 (c1.setIfInBounds i v) (wr.setCell ⟨w.heap.size + 1, i, none⟩ v) := by
  have m : Mod [w.heap.size + 1] wr (wr.setCell ⟨w.heap.size + 1, i, none⟩ v) := Mod.setCell wr _ _ (by simp)
  have hl := h.lt
  exact ⟨h.st.mod m (by simp; omega) (by simp; omega) (fun k hk hm => by have := hl.2.2 k hk; simp at hm; omega), m.get h.b0 (by simp), heap_setCell_same h.b1 v, h.mod.trans m (by intro i hi hl; simp at hi; omega), hl⟩
end

set_option maxRecDepth 100000 in
theorem tvote_any (tk g : Nat) (bs : List Nat) (lim : Int) (s : St) (w : World) (h : TkS w tk g bs lim s) (hl1 : -9223372036854775808 ≤ lim) (hl2 : lim ≤ 9223372036854775807) :
    Calls Tryd.prog 66 #[.pointer (some ⟨tk, 0, none⟩)] w fun e w' => ∃ ao cap, e = .returned (.agg #[.int .u64 ((s.vote lim).1.1.slot : Int), .int .u64 ((s.vote lim).1.1.n : Int), .int .i64 (s.vote lim).1.1.r, .slice ao (s.vote lim).1.2.length cap]) ∧ NewB w.heap.size w' ((s.vote lim).1.2, ao, cap) ∧ TkS w' tk g bs lim (s.vote lim).2 ∧ Mod [g, tk] w w' := by
  have hz := h.tlt
  obtain ⟨w1, hw1, T1⟩ := TB.start h 52 #[.int .u64 0, .int .u64 0, .int .i64 0, .slice none 0 0] #[.int .u64 0, .int .u64 0, .int .i64 0, .slice none 0 0]
  have HU := Lib.hid (ruint_any g bs s.e s.l lim w1 T1.st.rd)
  obtain ⟨n1, h1⟩ : ∃ x, s.uint.1 = x := ⟨_, rfl⟩
  obtain ⟨s1, h2⟩ : ∃ x, s.uint.2 = x := ⟨_, rfl⟩
  obtain ⟨⟨n2, r2⟩, h3⟩ : ∃ x, s1.ball.1 = x := ⟨_, rfl⟩
  obtain ⟨s2, h4⟩ : ∃ x, s1.ball.2 = x := ⟨_, rfl⟩
  obtain ⟨t3, h5⟩ : ∃ x, (s2.text lim).1 = x := ⟨_, rfl⟩
  obtain ⟨s3, h6⟩ : ∃ x, (s2.text lim).2 = x := ⟨_, rfl⟩
  have HV : Hid (s.vote lim = ((⟨n1, n2, (r2 : Int)⟩, t3), s3)) := Lib.hid (by unfold St.vote; rw [h2, h4, h3, h1, h5, h6])
  have H1 : Hid ((uintE 10 0 0 s.e s.l).1 = n1 ∧ (⟨(uintE 10 0 0 s.e s.l).2.1, (uintE 10 0 0 s.e s.l).2.2, s.bad⟩ : St) = s1) := Lib.hid ⟨h1, h2⟩
  have H3 := Lib.hid (And.intro h3 h4)
  have H5 := Lib.hid (And.intro h5 h6)
  rw [HV.out]
  dsimp only
  replace T1 := Lib.hid T1
  have t0 := cell_of_block (i := 0) T1.out.st.at0
  clear h h1 h2 h3 h4 h5 h6 HV
  go_enter Tryd.func66, Tryd.ntmps66
  go_wp2_with fail
  refine HU.out.mono ?_
  rintro r' w2 ⟨rfl, r2', m2⟩
  have T2 := T1.out.read (T1.out.st.read r2' m2) (m2.weaken (by simp))
  rw [H1.out.2] at T2
  rw [H1.out.1]
  have HT2 := Lib.hid T2
  have f0 := free_of_block (i := 0) T2.b1
  have c0 := cell_of_block (i := 0) T2.b1
  clear r2' m2 t0 HU H1 T1 hw1 T2
  go_wp2_with fail
  have HB := Lib.hid (tball_any tk g bs lim s1 _ (HT2.out.set1 0 (.int .u64 (n1 : Int))).st)
  rw [H3.out.1, H3.out.2] at HB
  refine HB.out.mono ?_
  rintro r' w3 ⟨rfl, k3, m3⟩
  have T3 := (HT2.out.set1 0 (.int .u64 (n1 : Int))).read k3 m3
  have f1 := free_of_block (i := 1) T3.b1
  have f2 := free_of_block (i := 2) T3.b1
  have c1 := cell_of_block (i := 1) T3.b1
  have c2 := cell_of_block (i := 2) T3.b1
  have HT3 := Lib.hid T3
  clear k3 m3 HB H3 HT2 T3 f0 c0
  go_wp2_with fail
  have HB := Lib.hid (ttext_any tk g bs lim s2 _ ((HT3.out.set1 1 (.int .u64 (n2 : Int))).set1 2 (.int .i64 (r2 : Int))).st hl1 hl2)
  rw [H5.out.1, H5.out.2] at HB
  refine HB.out.mono ?_
  rintro r' w4 ⟨ao, cap, rfl, nb4, k4, m4⟩
  have T4 := ((HT3.out.set1 1 (.int .u64 (n2 : Int))).set1 2 (.int .i64 (r2 : Int))).read k4 m4
  have HN := Lib.hid (nb4.grow (B' := w.heap.size + 2) (by
    have := lt_of_block HT3.out.b1
    have := (Mod.setCell (S := [w.heap.size + 1]) w3 ⟨w.heap.size + 1, 1, none⟩ (.int .u64 (n2 : Int)) (by simp)).size
    have := (Mod.setCell (S := [w.heap.size + 1]) (w3.setCell ⟨w.heap.size + 1, 1, none⟩ (.int .u64 (n2 : Int))) ⟨w.heap.size + 1, 2, none⟩ (.int .i64 (r2 : Int)) (by simp)).size
    omega))
  have f3 := free_of_block (i := 3) T4.b1
  have d0 := cell_of_block (i := 0) T4.b1
  have d1 := cell_of_block (i := 1) T4.b1
  have d2 := cell_of_block (i := 2) T4.b1
  have d3 := cell_of_block (i := 3) T4.b1
  have z0 := cell_of_block (i := 0) T4.b0
  have z1 := cell_of_block (i := 1) T4.b0
  have z2 := cell_of_block (i := 2) T4.b0
  have z3 := cell_of_block (i := 3) T4.b0
  have y0 := free_of_block (i := 0) T4.b0
  have y1 := free_of_block (i := 1) T4.b0
  have y2 := free_of_block (i := 2) T4.b0
  have y3 := free_of_block (i := 3) T4.b0
  have HT4 := Lib.hid (T4.set1 3 (.slice ao t3.length cap))
  simp at d0 d1 d2 d3 z0 z1 z2 z3
  clear k4 m4 nb4 HB H5 HT3 T4 f1 f2 c1 c2
  unfold bsV
  dsimp only
  go_wp2_with fail
  refine bodyPost_ret (by simp [results, Tryd.results66, go_sem, *]; try rfl) rfl ?_
  have HE := (((HT4.out.set0 0 (.int .u64 (n1 : Int))).set0 1 (.int .u64 (n2 : Int))).set0 2 (.int .i64 (r2 : Int))).set0 3 (.slice ao t3.length cap)
  refine ⟨ao, cap, rfl, ?_, HE.st, HE.mod⟩
  have m5 : Mod [w.heap.size + 1, w.heap.size] w4 (((((w4.setCell ⟨w.heap.size + 1, 3, none⟩ (.slice ao t3.length cap)).setCell ⟨w.heap.size, 0, none⟩ (.int .u64 (n1 : Int))).setCell ⟨w.heap.size, 1, none⟩ (.int .u64 (n2 : Int))).setCell ⟨w.heap.size, 2, none⟩ (.int .i64 (r2 : Int))).setCell ⟨w.heap.size, 3, none⟩ (.slice ao t3.length cap)) :=
    ((((Mod.setCell _ _ _ (by simp)).trans' (Mod.setCell _ _ _ (by simp))).trans' (Mod.setCell _ _ _ (by simp))).trans' (Mod.setCell _ _ _ (by simp))).trans' (Mod.setCell _ _ _ (by simp))
  exact (HN.out.mod m5 (fun k hk hs => by have := HN.out.2 k hk; simp at hs; omega)).grow (by omega)
end Go.Proofs.YtekdnljincbghaaDoor
/- Rows that are read: the walks of msg.rows. -/
namespace Go.Proofs.YtekdnljincbghaaDoor
open Go Go.RowKit Go.Lib

/-- Rows of unlike types lie apart. -/
theorem own_apart {w : World} {e e' : TypeId} {z z' n n' c c' : Nat} {ao bo : Option Addr} {xs ys : List Value} (h : Own w e z ao n c xs) (h' : Own w e' z' bo n' c' ys) (hne : e ≠ e') : ∀ k, k ∈ blk ao → k ∉ blk bo := by
  intro k hk hk'
  rcases h.2 with ⟨rfl, _⟩ | ⟨g, cur, fz, rfl, hg, _⟩
  · simp [blk] at hk
  · rcases h'.2 with ⟨rfl, _⟩ | ⟨g', cur', fz', rfl, hg', _⟩
    · simp [blk] at hk'
    · simp only [blk, List.mem_singleton] at hk hk'
      subst hk
      subst hk'
      rw [hg] at hg'
      simp only [Option.some.injEq, Obj.cells.injEq] at hg'
      exact hne hg'.2.1
theorem infoBs : (Tryd.prog.info? 27).map (fun i => (i.zero, i.size, i.bytes)) = some (some (.slice none 0 0), 1, 24) := by kernel_rfl
theorem infoVote : (Tryd.prog.info? 52).map (fun i => (i.zero, i.size, i.bytes)) = some (some (.agg #[.int .u64 0, .int .u64 0, .int .i64 0, .slice none 0 0]), 4, 48) := by kernel_rfl
/-- A row of rows of bytes, all of the call's own. -/
structure NewBs (B : Nat) (w : World) (so : Option Addr) (sc : Nat) (l : List Bs) : Prop where
  own : OwnM bsV w 27 so sc l
  at' : ∀ k, k ∈ blk so → B ≤ k
  el : ∀ b ∈ l, NewB B w b
theorem NewBs.nil (B : Nat) (w : World) : NewBs B w none 0 [] := ⟨OwnM.nil _ _ _, by simp [blk], by simp⟩
theorem NewBs.off {B : Nat} {S : List Nat} {w w' : World} {so : Option Addr} {sc : Nat} {l : List Bs} (h : NewBs B w so sc l) (m : Mod S w w') (hS : ∀ k, k ∈ S → k < B) : NewBs B w' so sc l :=
  ⟨h.own.mod m (fun k hk hs => by have := h.at' k hk; have := hS k hs; omega), h.at', fun b hb => (h.el b hb).off m hS⟩
theorem NewBs.mod0 {B : Nat} {w w' : World} {so : Option Addr} {sc : Nat} {l : List Bs} (h : NewBs B w so sc l) (m : Mod [] w w') : NewBs B w' so sc l := h.off m (by simp)
theorem NewBs.grow {B B' : Nat} {w : World} {so : Option Addr} {sc : Nat} {l : List Bs} (h : NewBs B w so sc l) (hb : B' ≤ B) : NewBs B' w so sc l := ⟨h.own, fun k hk => Nat.le_trans hb (h.at' k hk), fun b hb' => (h.el b hb').grow hb⟩
theorem NewBs.app {B : Nat} {w w' : World} {so so' : Option Addr} {sc sc' : Nat} {l : List Bs} {b : Bs} (h : NewBs B w so sc l) (hb : NewB B w b) (o : OwnM bsV w' 27 so' sc' (l ++ [b])) (m : Mod (blk so) w w') (n : SameOrNew w w' so so') (hB : B ≤ w.heap.size) : NewBs B w' so' sc' (l ++ [b]) := by
  refine ⟨o, fun k hk => ?_, fun b' hb' => ?_⟩
  · rcases n.blk k hk with h1 | h1
    · exact h.at' k h1
    · omega
  · have h1 : NewB B w b' := by
      rcases List.mem_append.1 hb' with h1 | h1
      · exact h.el b' h1
      · simp only [List.mem_singleton] at h1
        subst h1
        exact hb
    exact h1.mod m (own_apart h1.1 h.own (by decide))
def cellsV (l : List Vm) : List Value := l.flatMap voteC
theorem cellsV_length : ∀ (l : List Vm), (cellsV l).length = l.length * 4 := by
  intro l
  induction l with
  | nil => rfl
  | cons x l ih =>
    unfold cellsV at ih ⊢
    rw [List.flatMap_cons, List.length_append, ih, List.length_cons]
    simp [voteC]
    omega
theorem cellsV_at (l : List Vm) : ∀ (j : Nat) (hj : j < l.length) (i : Nat), i < 4 → (cellsV l)[j * 4 + i]? = (voteC l[j])[i]? := by
  induction l with
  | nil => intro j hj; simp at hj
  | cons x l ih =>
    intro j hj i hi
    have hx : (voteC x).length = 4 := rfl
    unfold cellsV at ih ⊢
    rw [List.flatMap_cons]
    cases j with
    | zero =>
      rw [Nat.zero_mul, Nat.zero_add, List.getElem?_append_left (by omega)]
      rfl
    | succ j =>
      rw [List.getElem?_append_right (by omega), hx, show (j + 1) * 4 + i - 4 = j * 4 + i by omega]
      exact ih j (by simpa using hj) i hi
def OwnV (w : World) (ao : Option Addr) (cap : Nat) (l : List Vm) : Prop := Own w 52 4 ao l.length cap (cellsV l)
theorem OwnV.at' {w : World} {ao : Option Addr} {cap : Nat} {l : List Vm} (h : OwnV w ao cap l) {j : Nat} (hj : j < l.length) :
    ∃ g, ao = some ⟨g, 0, none⟩ ∧ ∀ i v, i < 4 → (voteC l[j])[i]? = some v → w.cell? ⟨g, j * 4 + i, none⟩ = some v ∧ w.frozen? ⟨g, j * 4 + i, none⟩ = false := by
  obtain ⟨g, h1, _⟩ := Own.cell h (j := j * 4 + 0) (u := .int .u64 (l[j].1.slot : Int)) (by rw [cellsV_at l j hj 0 (by omega)]; rfl)
  refine ⟨g, h1, fun i v hi hv => ?_⟩
  obtain ⟨g', h1', h2'⟩ := Own.cell h (j := j * 4 + i) (u := v) (by rw [cellsV_at l j hj i hi]; exact hv)
  rw [h1] at h1'
  cases h1'
  exact h2'
theorem wpl_appV {w : World} {ops : Array Oper} {rest : List Oper} {a : Act} {Q : Exit → Act → World → Prop} {dst : Option Tmp} {ty : TypeId} {pos : String} {after : Array Edge} (s x : Operand)
    (ao : Option Addr) (n cap : Nat) (xs : List Vm) (hs : a.eval s = .slice ao n cap) (hn : xs.length = n) (hown : OwnV w ao cap xs)
    (g : Nat) (y : Vm) (hx : a.eval x = .slice (some ⟨g, 0, none⟩) 1 1) (hsh : Shows w (some ⟨g, 0, none⟩) (cellsV [y])) (hb : n + 1 ≤ 1000000)
    (h : ∀ ao' cap' w', OwnV w' ao' cap' (xs ++ [y]) → Mod (blk ao) w w' → SameOrNew w w' ao ao' → wpList Tryd.prog ops Q rest (a.put dst (.slice ao' (n + 1) cap')) w') :
    wpList Tryd.prog ops Q (⟨dst, .call { callee := .builtin .append, args := #[s, x], argTypes := #[25, 25] }, ty, pos, after, none⟩ :: rest) a w := by
  obtain ⟨i0, hi, hz0, hz1, hz2⟩ := info_parts infoVote
  subst hn
  refine wpl_append w rfl s x 25 rfl 52 i0 _ 4 48 Tryd.underlying25 hi hz0 hz1 hz2 rfl (by decide) ao _ cap _ hs hown (some ⟨g, 0, none⟩) 1 1 (cellsV [y]) hx (cellsV_length [y]) hsh ?_ (by unfold maxLen; omega) (by omega) ?_
  · intro u hu
    obtain ⟨x, hx, hu⟩ := List.mem_flatMap.1 hu
    simp only [voteC, List.mem_cons, List.not_mem_nil, or_false] at hu
    rcases hu with rfl | rfl | rfl | rfl <;> rfl
  · intro ao' cap' w' h1 h2 h3
    refine h ao' cap' w' ?_ h2 h3
    unfold OwnV cellsV
    rw [List.length_append, List.flatMap_append]
    exact h1
theorem showsV {w : World} {g : Nat} {x : Vm} {t : TypeId} {z : Nat × Nat} (h : w.heap[g]? = some (.cells (voteC x).toArray t z)) : Shows w (some ⟨g, 0, none⟩) (cellsV [x]) := by
  intro j u hj
  refine ⟨_, rfl, ?_⟩
  rw [Addr.add_lit, cell_of_block h, Nat.zero_add]
  have : cellsV [x] = voteC x := by simp [cellsV]
  rw [this] at hj
  rw [← hj]
  simp
/-- A row of votes, all of the call's own. -/
structure NewVs (B : Nat) (w : World) (so : Option Addr) (sc : Nat) (l : List Vm) : Prop where
  own : OwnV w so sc l
  at' : ∀ k, k ∈ blk so → B ≤ k
  el : ∀ v ∈ l, NewB B w v.2
theorem NewVs.nil (B : Nat) (w : World) : NewVs B w none 0 [] := ⟨Own.nil0 _ _ _, by simp [blk], by simp⟩
theorem NewVs.off {B : Nat} {S : List Nat} {w w' : World} {so : Option Addr} {sc : Nat} {l : List Vm} (h : NewVs B w so sc l) (m : Mod S w w') (hS : ∀ k, k ∈ S → k < B) : NewVs B w' so sc l :=
  ⟨Own.mod h.own m (fun k hk hs => by have := h.at' k hk; have := hS k hs; omega), h.at', fun b hb => (h.el b hb).off m hS⟩
theorem NewVs.mod0 {B : Nat} {w w' : World} {so : Option Addr} {sc : Nat} {l : List Vm} (h : NewVs B w so sc l) (m : Mod [] w w') : NewVs B w' so sc l := h.off m (by simp)
theorem NewVs.grow {B B' : Nat} {w : World} {so : Option Addr} {sc : Nat} {l : List Vm} (h : NewVs B w so sc l) (hb : B' ≤ B) : NewVs B' w so sc l := ⟨h.own, fun k hk => Nat.le_trans hb (h.at' k hk), fun b hb' => (h.el b hb').grow hb⟩
theorem NewVs.app {B : Nat} {w w' : World} {so so' : Option Addr} {sc sc' : Nat} {l : List Vm} {v : Vm} (h : NewVs B w so sc l) (hb : NewB B w v.2) (o : OwnV w' so' sc' (l ++ [v])) (m : Mod (blk so) w w') (n : SameOrNew w w' so so') (hB : B ≤ w.heap.size) : NewVs B w' so' sc' (l ++ [v]) := by
  refine ⟨o, fun k hk => ?_, fun b' hb' => ?_⟩
  · rcases n.blk k hk with h1 | h1
    · exact h.at' k h1
    · omega
  · have h1 : NewB B w b'.2 := by
      rcases List.mem_append.1 hb' with h1 | h1
      · exact h.el b' h1
      · simp only [List.mem_singleton] at h1
        subst h1
        exact hb
    exact h1.mod m (own_apart h1.1 h.own (by decide))

theorem rep_succ {α : Type} (f : St → α × St) (k : Nat) (s : St) : St.rep f (k + 1) s = ((St.rep f k s).1 ++ [(f (St.rep f k s).2).1], (f (St.rep f k s).2).2) := rfl
theorem rep_len {α : Type} (f : St → α × St) (k : Nat) (s : St) : (St.rep f k s).1.length = k := by
  induction k with
  | zero => rfl
  | succ k ih => rw [rep_succ, List.length_append, ih]; rfl

set_option maxRecDepth 100000 in
set_option maxHeartbeats 1000000 in
theorem rows1_any (tk g : Nat) (bs : List Nat) (lim : Int) (s : St) (w : World) (h : TkS w tk g bs lim s) (hl1 : -9223372036854775808 ≤ lim) (hl2 : lim ≤ 9223372036854775807) :
    Calls Tryd.prog 64 #[.pointer (some ⟨tk, 0, none⟩), .int .i64 16, .func (.func 63) #[.pointer (some ⟨tk, 0, none⟩)] #[]] w fun e w' => ∃ so n sc bl, e = .returned (.slice so n sc) ∧ bl.length = n ∧ dB bl = (s.rows 16 (St.text lim)).1 ∧ NewBs w.heap.size w' so sc bl ∧ TkS w' tk g bs lim (s.rows 16 (St.text lim)).2 ∧ Mod [g, tk] w w' := by
  have hz := h.tlt
  have hu := uintE_lt s.e s.l
  obtain ⟨n1, h1⟩ : ∃ x, s.uint.1 = x := ⟨_, rfl⟩
  obtain ⟨s1, h2⟩ : ∃ x, s.uint.2 = x := ⟨_, rfl⟩
  have h1' : (uintE 10 0 0 s.e s.l).1 = n1 := h1
  rw [h1'] at hu
  have HR : Hid (s.rows 16 (St.text lim) = if 16 < n1 then ([], ⟨s1.e, s1.l, true⟩) else St.rep (St.text lim) n1 s1) := Lib.hid (by unfold St.rows; rw [h1, h2])
  have HU := Lib.hid (ruint_any g bs s.e s.l lim w h.rd)
  have H1 : Hid ((uintE 10 0 0 s.e s.l).1 = n1 ∧ (⟨(uintE 10 0 0 s.e s.l).2.1, (uintE 10 0 0 s.e s.l).2.2, s.bad⟩ : St) = s1) := Lib.hid ⟨h1, h2⟩
  have T := Lib.hid h
  have t0 := cell_of_block (i := 0) h.at0
  have HLT := Lib.hid h.lt
  clear h h1 h1' h2
  by_cases hb : 16 < n1
  case pos =>
    rw [HR.out, if_pos hb]
    have D : decide ((16 : Int) < (n1 : Int)) = true := decide_eq_true (by omega)
    clear HR
    go_enter Tryd.func64, Tryd.ntmps64
    go_wp2_with fail
    refine HU.out.mono ?_
    rintro r' w2 ⟨rfl, r2, m2⟩
    have T2 := T.out.read r2 m2
    rw [H1.out.2] at T2
    rw [H1.out.1]
    have t1 := cell_of_block (i := 1) T2.at0
    have f1 := free_of_block (i := 1) T2.at0
    have HT2 := Lib.hid T2
    have M2 := Lib.hid (m2.weaken (S' := [g, tk]) (by simp))
    clear T2 m2 r2 t0 HU
    go_wp2_with fail
    go_ret
    exact ⟨none, 0, 0, [], rfl, rfl, rfl, NewBs.nil _ _, HT2.out.set true, M2.out.trans' (Mod.setCell _ _ _ (by simp))⟩
  case neg =>
    rw [HR.out, if_neg hb]
    have D : decide ((16 : Int) < (n1 : Int)) = false := decide_eq_false (by omega)
    clear HR
    go_enter Tryd.func64, Tryd.ntmps64
    go_wp2_with fail
    refine HU.out.mono ?_
    rintro r' w2 ⟨rfl, r2, m2⟩
    have T2 := T.out.read r2 m2
    rw [H1.out.2] at T2
    rw [H1.out.1]
    have HT2 := Lib.hid T2
    have M2 := Lib.hid (m2.weaken (S' := [g, tk]) (by simp))
    clear T2 m2 r2 t0 HU T
    go_wp2_with fail
    go_loopw [8, 22] (fun s8 s22 wr => ∃ (k : Nat) (so : Option Addr) (kk sc : Nat) (bl : List Bs), k ≤ n1 ∧ s22 = .int .u64 (k : Int) ∧ s8 = .slice so kk sc ∧ bl.length = kk ∧ dB bl = (St.rep (St.text lim) k s1).1 ∧ NewBs w.heap.size wr so sc bl ∧ TkS wr tk g bs lim (St.rep (St.text lim) k s1).2 ∧ Mod [g, tk] w wr) (fun _ s22 _ => n1 - (intOf s22).toNat)
    case atStart => exact ⟨0, none, 0, 0, [], Nat.zero_le _, rfl, rfl, rfl, rfl, NewBs.nil _ _, HT2.out, M2.out⟩
    case round =>
      obtain ⟨k, so, kk, sc, bl, hk, rfl, rfl, hkk, hbl, hnb, ht, hm⟩ := hrel
      rename World => wr
      have hkk2 : kk = k := by rw [← hkk, ← dB_length, hbl, rep_len]
      subst hkk2
      have HKK := Lib.hid hkk
      have HBL := Lib.hid hbl
      have HNB := Lib.hid hnb
      have HT := Lib.hid ht
      have HM := Lib.hid hm
      clear hkk hbl hnb ht hm HT2 M2
      by_cases hlt : kk < n1
      · have hlt2 : (kk : Int) < (n1 : Int) := by omega
        have HC := Lib.hid (ttext_any tk g bs lim _ wr HT.out hl1 hl2)
        have HRS := Lib.hid (rep_succ (St.text lim) kk s1)
        obtain ⟨sk, hsk⟩ : ∃ x, (St.rep (St.text lim) kk s1).2 = x := ⟨_, rfl⟩
        rw [hsk] at HC HT HRS
        obtain ⟨⟨tx, sn⟩, htx⟩ : ∃ x, sk.text lim = x := ⟨_, rfl⟩
        rw [htx] at HC HRS
        dsimp only at HC HRS
        clear hsk htx
        go_wp2_with fail
        refine HC.out.mono ?_
        rintro r' w3 ⟨ao, cap, rfl, nb3, t3, m3⟩
        have NB3 := Lib.hid (nb3.grow HM.out.size)
        have T3 := Lib.hid t3
        have HNB3 := Lib.hid (HNB.out.off m3 (by simp; omega))
        have M3 := Lib.hid (HM.out.trans' m3)
        have hz3 : w.heap.size ≤ w3.heap.size := M3.out.size
        have m4 := Mod.alloc [] w3 (.cells #[.slice ao tx.length cap] 27)
        have sh4 := shows_one (f := bsV) (x := ((tx, ao, cap) : Bs)) (t := 27) (z := (0, 0)) (w := w3.alloc (.cells #[.slice ao tx.length cap] 27)) (g := w3.heap.size) (heap_alloc_new w3 _)
        obtain ⟨w4, hw4⟩ : ∃ x, w3.alloc (.cells #[.slice ao tx.length cap] 27) = x := ⟨_, rfl⟩
        rw [hw4] at m4 sh4
        have NB4 := Lib.hid (NB3.out.mod0 m4)
        have T4 := Lib.hid (T3.out.mod0 m4)
        have HNB4 := Lib.hid (HNB3.out.mod0 m4)
        have M4 := Lib.hid (M3.out.trans0 m4)
        have SH4 := Lib.hid sh4
        clear nb3 t3 m3 m4 sh4 NB3 T3 HNB3 M3 HC HT HNB HM
        unfold bsV
        dsimp only
        go_wp2_with (first | (at_builtin; refine wpl_appM (f := bsV) (dst := some 28) _ _ 26 _ 24 Tryd.underlying26 infoBs rfl (fun _ => rfl) kk bl rfl HKK.out HNB4.out.own _ 1 1 [((tx, ao, cap) : Bs)] rfl rfl SH4.out (by omega) (by omega) ?_) | fail)
        intro so5 sc5 w5 o5 m5 n5
        have hz4 : w.heap.size ≤ w4.heap.size := M4.out.size
        have HNB5 := Lib.hid (HNB4.out.app NB4.out o5 m5 n5 hz4)
        have T5 := Lib.hid (T4.out.off (W := w) m5 hz.1 hz.2 HLT.out (fun k hk => HNB4.out.at' k hk))
        have M5 := Lib.hid (M4.out.trans m5 (fun i hi hl => by have := HNB4.out.at' i hi; omega))
        have HD : Hid (dB (bl ++ [((tx, ao, cap) : Bs)]) = (St.rep (St.text lim) (kk + 1) s1).1) := Lib.hid (by
          rw [HRS.out]
          dsimp only
          rw [← HBL.out]
          unfold dB
          rw [List.map_append]
          rfl)
        have HT6 : Hid (TkS w5 tk g bs lim (St.rep (St.text lim) (kk + 1) s1).2) := Lib.hid (by rw [HRS.out]; exact T5.out)
        have HLL : Hid ((bl ++ [((tx, ao, cap) : Bs)]).length = kk + 1) := Lib.hid (by rw [List.length_append, HKK.out]; rfl)
        clear o5 m5 n5 HNB4 NB4 T4 T5 M4 SH4 hw4
        go_wp2_with fail
        go_roundw
        case rel => exact ⟨kk + 1, so5, kk + 1, sc5, _, by omega, by go_num, rfl, HLL.out, HD.out, HNB5.out, HT6.out, M5.out⟩
        case measure => simp [intOf]; omega
      · have hke : kk = n1 := by omega
        subst hke
        go_wp2_with fail
        go_ret
        exact ⟨so, kk, sc, bl, rfl, HKK.out, HBL.out, HNB.out, HT.out, HM.out⟩
set_option maxRecDepth 100000 in
set_option maxHeartbeats 1000000 in
theorem rows2_any (tk g : Nat) (bs : List Nat) (lim : Int) (s : St) (w : World) (h : TkS w tk g bs lim s) (hl1 : -9223372036854775808 ≤ lim) (hl2 : lim ≤ 9223372036854775807) :
    Calls Tryd.prog 65 #[.pointer (some ⟨tk, 0, none⟩), .int .i64 256, .func (.func 66) #[.pointer (some ⟨tk, 0, none⟩)] #[]] w fun e w' => ∃ so n sc bl, e = .returned (.slice so n sc) ∧ bl.length = n ∧ dV bl = (s.rows 256 (St.vote lim)).1 ∧ NewVs w.heap.size w' so sc bl ∧ TkS w' tk g bs lim (s.rows 256 (St.vote lim)).2 ∧ Mod [g, tk] w w' := by
  have hz := h.tlt
  have hu := uintE_lt s.e s.l
  obtain ⟨n1, h1⟩ : ∃ x, s.uint.1 = x := ⟨_, rfl⟩
  obtain ⟨s1, h2⟩ : ∃ x, s.uint.2 = x := ⟨_, rfl⟩
  have h1' : (uintE 10 0 0 s.e s.l).1 = n1 := h1
  rw [h1'] at hu
  have HR : Hid (s.rows 256 (St.vote lim) = if 256 < n1 then ([], ⟨s1.e, s1.l, true⟩) else St.rep (St.vote lim) n1 s1) := Lib.hid (by unfold St.rows; rw [h1, h2])
  have HU := Lib.hid (ruint_any g bs s.e s.l lim w h.rd)
  have H1 : Hid ((uintE 10 0 0 s.e s.l).1 = n1 ∧ (⟨(uintE 10 0 0 s.e s.l).2.1, (uintE 10 0 0 s.e s.l).2.2, s.bad⟩ : St) = s1) := Lib.hid ⟨h1, h2⟩
  have T := Lib.hid h
  have t0 := cell_of_block (i := 0) h.at0
  have HLT := Lib.hid h.lt
  clear h h1 h1' h2
  by_cases hb : 256 < n1
  case pos =>
    rw [HR.out, if_pos hb]
    have D : decide ((256 : Int) < (n1 : Int)) = true := decide_eq_true (by omega)
    clear HR
    go_enter Tryd.func65, Tryd.ntmps65
    go_wp2_with fail
    refine HU.out.mono ?_
    rintro r' w2 ⟨rfl, r2, m2⟩
    have T2 := T.out.read r2 m2
    rw [H1.out.2] at T2
    rw [H1.out.1]
    have t1 := cell_of_block (i := 1) T2.at0
    have f1 := free_of_block (i := 1) T2.at0
    have HT2 := Lib.hid T2
    have M2 := Lib.hid (m2.weaken (S' := [g, tk]) (by simp))
    clear T2 m2 r2 t0 HU
    go_wp2_with fail
    go_ret
    exact ⟨none, 0, 0, [], rfl, rfl, rfl, NewVs.nil _ _, HT2.out.set true, M2.out.trans' (Mod.setCell _ _ _ (by simp))⟩
  case neg =>
    rw [HR.out, if_neg hb]
    have D : decide ((256 : Int) < (n1 : Int)) = false := decide_eq_false (by omega)
    clear HR
    go_enter Tryd.func65, Tryd.ntmps65
    go_wp2_with fail
    refine HU.out.mono ?_
    rintro r' w2 ⟨rfl, r2, m2⟩
    have T2 := T.out.read r2 m2
    rw [H1.out.2] at T2
    rw [H1.out.1]
    have HT2 := Lib.hid T2
    have M2 := Lib.hid (m2.weaken (S' := [g, tk]) (by simp))
    clear T2 m2 r2 t0 HU T
    go_wp2_with fail
    go_loopw [8, 22] (fun s8 s22 wr => ∃ (k : Nat) (so : Option Addr) (kk sc : Nat) (bl : List Vm), k ≤ n1 ∧ s22 = .int .u64 (k : Int) ∧ s8 = .slice so kk sc ∧ bl.length = kk ∧ dV bl = (St.rep (St.vote lim) k s1).1 ∧ NewVs w.heap.size wr so sc bl ∧ TkS wr tk g bs lim (St.rep (St.vote lim) k s1).2 ∧ Mod [g, tk] w wr) (fun _ s22 _ => n1 - (intOf s22).toNat)
    case atStart => exact ⟨0, none, 0, 0, [], Nat.zero_le _, rfl, rfl, rfl, rfl, NewVs.nil _ _, HT2.out, M2.out⟩
    case round =>
      obtain ⟨k, so, kk, sc, bl, hk, rfl, rfl, hkk, hbl, hnb, ht, hm⟩ := hrel
      rename World => wr
      have hkk2 : kk = k := by rw [← hkk, ← dV_length, hbl, rep_len]
      subst hkk2
      have HKK := Lib.hid hkk
      have HBL := Lib.hid hbl
      have HNB := Lib.hid hnb
      have HT := Lib.hid ht
      have HM := Lib.hid hm
      clear hkk hbl hnb ht hm HT2 M2
      by_cases hlt : kk < n1
      · have hlt2 : (kk : Int) < (n1 : Int) := by omega
        have HC := Lib.hid (tvote_any tk g bs lim _ wr HT.out hl1 hl2)
        have HRS := Lib.hid (rep_succ (St.vote lim) kk s1)
        obtain ⟨sk, hsk⟩ : ∃ x, (St.rep (St.vote lim) kk s1).2 = x := ⟨_, rfl⟩
        rw [hsk] at HC HT HRS
        obtain ⟨⟨⟨⟨sl, bn, br⟩, tx⟩, sn⟩, htx⟩ : ∃ x, sk.vote lim = x := ⟨_, rfl⟩
        rw [htx] at HC HRS
        dsimp only at HC HRS
        clear hsk htx
        go_wp2_with fail
        refine HC.out.mono ?_
        rintro r' w3 ⟨ao, cap, rfl, nb3, t3, m3⟩
        have NB3 := Lib.hid (nb3.grow HM.out.size)
        have T3 := Lib.hid t3
        have HNB3 := Lib.hid (HNB.out.off m3 (by simp; omega))
        have M3 := Lib.hid (HM.out.trans' m3)
        have hz3 : w.heap.size ≤ w3.heap.size := M3.out.size
        have m4 := Mod.alloc [] w3 (.cells #[.int .u64 (sl : Int), .int .u64 (bn : Int), .int .i64 br, .slice ao tx.length cap] 52)
        have sh4 := showsV (x := ((⟨sl, bn, br⟩, tx, ao, cap) : Vm)) (t := 52) (z := (0, 0)) (w := w3.alloc (.cells #[.int .u64 (sl : Int), .int .u64 (bn : Int), .int .i64 br, .slice ao tx.length cap] 52)) (g := w3.heap.size) (heap_alloc_new w3 _)
        obtain ⟨w4, hw4⟩ : ∃ x, w3.alloc (.cells #[.int .u64 (sl : Int), .int .u64 (bn : Int), .int .i64 br, .slice ao tx.length cap] 52) = x := ⟨_, rfl⟩
        rw [hw4] at m4 sh4
        have NB4 := Lib.hid (NB3.out.mod0 m4)
        have T4 := Lib.hid (T3.out.mod0 m4)
        have HNB4 := Lib.hid (HNB3.out.mod0 m4)
        have M4 := Lib.hid (M3.out.trans0 m4)
        have SH4 := Lib.hid sh4
        clear nb3 t3 m3 m4 sh4 NB3 T3 HNB3 M3 HC HT HNB HM
        go_wp2_with (first | (at_builtin; refine wpl_appV (dst := some 28) _ _ so kk sc bl rfl HKK.out HNB4.out.own _ ((⟨sl, bn, br⟩, tx, ao, cap) : Vm) rfl SH4.out (by omega) ?_) | fail)
        intro so5 sc5 w5 o5 m5 n5
        have hz4 : w.heap.size ≤ w4.heap.size := M4.out.size
        have HNB5 := Lib.hid (HNB4.out.app NB4.out o5 m5 n5 hz4)
        have T5 := Lib.hid (T4.out.off (W := w) m5 hz.1 hz.2 HLT.out (fun k hk => HNB4.out.at' k hk))
        have M5 := Lib.hid (M4.out.trans m5 (fun i hi hl => by have := HNB4.out.at' i hi; omega))
        have HD : Hid (dV (bl ++ [((⟨sl, bn, br⟩, tx, ao, cap) : Vm)]) = (St.rep (St.vote lim) (kk + 1) s1).1) := Lib.hid (by
          rw [HRS.out]
          dsimp only
          rw [← HBL.out]
          unfold dV
          rw [List.map_append]
          rfl)
        have HT6 : Hid (TkS w5 tk g bs lim (St.rep (St.vote lim) (kk + 1) s1).2) := Lib.hid (by rw [HRS.out]; exact T5.out)
        have HLL : Hid ((bl ++ [((⟨sl, bn, br⟩, tx, ao, cap) : Vm)]).length = kk + 1) := Lib.hid (by rw [List.length_append, HKK.out]; rfl)
        clear o5 m5 n5 HNB4 NB4 T4 T5 M4 SH4 hw4
        go_wp2_with fail
        go_roundw
        case rel => exact ⟨kk + 1, so5, kk + 1, sc5, _, by omega, by go_num, rfl, HLL.out, HD.out, HNB5.out, HT6.out, M5.out⟩
        case measure => simp [intOf]; omega
      · have hke : kk = n1 := by omega
        subst hke
        go_wp2_with fail
        go_ret
        exact ⟨so, kk, sc, bl, rfl, HKK.out, HBL.out, HNB.out, HT.out, HM.out⟩
end Go.Proofs.YtekdnljincbghaaDoor
