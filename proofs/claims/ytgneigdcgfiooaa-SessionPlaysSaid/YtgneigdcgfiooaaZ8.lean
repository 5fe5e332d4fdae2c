/- Texts put together (8 of 9): Read3, VarLaw, Sess5, Sess7, Sess8, SessCopy, SessEq, Sess6. -/
import Derived.Test.YtgneigdcgfiooaaZ7
import Derived.Test.YtgneigdcgfiooaaZ1
import Derived.Test.YtgneigdcgfiooaaZ2
import Derived.Handy
import Derived.Maps.RangeWalk
/- The walks of the varint package's reader: signed numbers, texts, the end; a new one. -/
namespace Go.Proofs.Ytgneigdcgfiooaa
open Go Go.RowKit

/-- A number from 0 on, as a signed one. -/
def zag (n : Nat) : Int := if n % 2 = 0 then ((n / 2 : Nat) : Int) else -((n / 2 : Nat) : Int) - 1

theorem uintR_lt (k : Nat) : ∀ (i n : Nat) (l : List UInt8), n < 2 ^ (7 * i) → i + k = 10 → (uintR k i n l).1 < 18446744073709551616 := by
  induction k with
  | zero => intro i n l _ _; simp [uintR]
  | succ k ih =>
    intro i n l hn hk
    cases l with
    | nil => simp [uintR]
    | cons c r =>
      unfold uintR
      split
      · simp
      · rename_i hbad
        have h9 : i = 9 → c.toNat ≤ 1 := fun h => by
          by_cases h1 : 1 < c.toNat
          · exact absurd (.inl ⟨h, h1⟩) hbad
          · omega
        split
        · show n + c.toNat % 128 * 2 ^ (7 * i) < _
          by_cases h : i = 9
          · subst h
            have h1 : c.toNat % 128 ≤ 1 := by have := h9 rfl; omega
            have h2 : 2 ^ (7 * 9) = 9223372036854775808 := by decide
            rw [h2] at *
            omega
          · have h1 := acc_next n i c hn
            have h2 : 2 ^ (7 * (i + 1)) ≤ 2 ^ 63 := Nat.pow_le_pow_right (by omega) (by omega)
            omega
        · by_cases h : i = 9
          · rename_i h128
            have := h9 h; omega
          · exact ih (i + 1) _ r (acc_next n i c hn) (by omega)
theorem uintE_lt (e : Int) (l : List UInt8) : (uintE 10 0 0 e l).1 < 18446744073709551616 := by
  unfold uintE
  split
  · exact uintR_lt 10 0 0 l (by decide) rfl
  · simp
theorem xor_i64 (n : Nat) (h : n < 9223372036854775808) (m : Int) (hm : m = 0 ∨ m = -1) : bits .xor .i64 (n : Int) m = if m = 0 then (n : Int) else -(n : Int) - 1 := by
  have e2 : BitVec.ofInt 64 (n : Int) = BitVec.ofNat 64 n := BitVec.ofInt_natCast 64 n
  show IntKind.i64.wrap ((BitVec.ofInt 64 (n : Int) ^^^ BitVec.ofInt 64 m).toNat : Int) = _
  rcases hm with rfl | rfl
  · have e1 : BitVec.ofInt 64 0 = 0#64 := by decide
    rw [e1, e2, BitVec.xor_zero, BitVec.toNat_ofNat, Nat.mod_eq_of_lt (by omega), if_pos rfl, IntKind.wrap_i64]
    omega
  · have e1 : BitVec.ofInt 64 (-1) = BitVec.allOnes 64 := by decide
    rw [e1, e2, BitVec.xor_allOnes, BitVec.toNat_not, BitVec.toNat_ofNat, Nat.mod_eq_of_lt (by omega), if_neg (by decide), IntKind.wrap_i64]
    omega
theorem zag_walk (n : Nat) (h : n < 18446744073709551616) :
    bits BinOp.xor IntKind.i64 (wrap64 ((n : Int) / 2)) (wrap64 (-wrap64 (bits BinOp.and IntKind.u64 (n : Int) 1))) = zag n := by
  have e1 : bits BinOp.and IntKind.u64 (n : Int) 1 = ((n % 2 : Nat) : Int) := by
    have := bits_and_u64_nat n 1 h (by omega)
    rw [Nat.and_one_is_mod] at this
    exact this
  have e2 : wrap64 ((n : Int) / 2) = ((n / 2 : Nat) : Int) := by
    unfold wrap64; omega
  rw [e1, e2]
  rcases Nat.mod_two_eq_zero_or_one n with h0 | h0
  · have w0 : wrap64 (-wrap64 ((0 : Nat) : Int)) = 0 := by unfold wrap64; omega
    rw [h0, w0, xor_i64 _ (by omega) _ (.inl rfl), if_pos rfl, zag, if_pos h0]
  · have w1 : wrap64 (-wrap64 ((1 : Nat) : Int)) = -1 := by unfold wrap64; omega
    rw [h0, w1, xor_i64 _ (by omega) _ (.inr rfl), if_neg (by omega), zag, if_neg (by omega)]
/-- The end. -/
def doneR (e : Int) (l : List UInt8) : Int := if e = 0 then (if l = [] then 0 else 11) else e
set_option maxHeartbeats 1000000 in
theorem rdone_any (g : Nat) (bs : List Nat) (e : Int) (l : List UInt8) (lim : Int) (w : World) (h : Rd w g bs e l lim) :
    Calls Try.prog 13 #[.pointer (some ⟨g, 0, none⟩)] w fun r w' => r = .returned (.int .i64 (doneR e l)) ∧ Rd w' g bs (doneR e l) l lim ∧ Mod [g] w w' := by
  obtain ⟨ao, cap, c0, c1, c2, fr, h3, h4, h5, h6⟩ := h.open
  have fr0 := fr 0
  have H := Lib.hid h
  clear h fr h5 h6
  by_cases he : e = 0
  · subst he
    cases l with
    | nil =>
      go_enter Try.func13, Try.ntmps13
      go_wp2_with (go_at_call 19; refine (err_any g bs 0 [] lim _ H.out).mono ?_; rintro e w1 ⟨rfl, rfl⟩)
      go_ret
      exact ⟨rfl, H.out, Mod.refl _ _⟩
    | cons c r =>
      have hlen : (c :: r).length = r.length + 1 := rfl
      go_enter Try.func13, Try.ntmps13
      go_wp2_with (first | (go_at_call 19; refine (err_any g bs 0 (c :: r) lim _ H.out).mono ?_; rintro e w1 ⟨rfl, rfl⟩) | (go_at_call 21; refine (fail_any g 0 11 _ c0 fr0).mono ?_; rintro e w1 ⟨⟨v, rfl⟩, rfl⟩; simp only [if_true]))
      go_ret
      exact ⟨rfl, H.out.err 11, Mod.setCell _ _ _ (by simp)⟩
  · have hd : doneR e l = e := by simp [doneR, he]
    go_enter Try.func13, Try.ntmps13
    go_wp2_with (go_at_call 19; refine (err_any g bs e l lim _ H.out).mono ?_; rintro e w1 ⟨rfl, rfl⟩)
    go_ret
    rw [hd]
    exact ⟨rfl, H.out, Mod.refl _ _⟩

theorem blk_map (ao : Option Addr) (n : Nat) : blk (ao.map fun x => x.add n) = blk ao := by
  cases ao with
  | none => rfl
  | some a => simp only [Option.map_some, blk, Addr.add]; split <;> rfl
theorem Sees.dropMap {w : World} {ao : Option Addr} {l : List UInt8} (h : Sees w ao l) (n : Nat) : Sees w (ao.map fun x => x.add n) (l.drop n) := by
  intro j hj
  have hj' : n + j < l.length := by simp only [List.length_drop] at hj; omega
  obtain ⟨b, off, rfl, h2⟩ := h (n + j) hj'
  refine ⟨b, off + n, by simp [Addr.add_lit], ?_⟩
  rw [List.getElem_drop, Nat.add_assoc]; exact h2
/-- A text. -/
def textR (lim e : Int) (l : List UInt8) : List UInt8 × Int × List UInt8 :=
  if (uintE 10 0 0 e l).2.1 ≠ 0 then ([], (uintE 10 0 0 e l).2.1, (uintE 10 0 0 e l).2.2)
  else if max lim 0 < ((uintE 10 0 0 e l).1 : Int) then ([], 11, (uintE 10 0 0 e l).2.2)
  else if (uintE 10 0 0 e l).2.2.length < (uintE 10 0 0 e l).1 then ([], 10, (uintE 10 0 0 e l).2.2)
  else ((uintE 10 0 0 e l).2.2.take (uintE 10 0 0 e l).1, 0, (uintE 10 0 0 e l).2.2.drop (uintE 10 0 0 e l).1)
set_option maxRecDepth 100000 in
set_option maxHeartbeats 1000000 in
theorem rtext_any (g : Nat) (bs : List Nat) (e : Int) (l : List UInt8) (lim : Int) (w : World) (h : Rd w g bs e l lim) (hl1 : -9223372036854775808 ≤ lim) (hl2 : lim ≤ 9223372036854775807) :
    Calls Try.prog 20 #[.pointer (some ⟨g, 0, none⟩)] w fun r w' => r = .returned (strV (textR lim e l).1) ∧ Rd w' g bs (textR lim e l).2.1 (textR lim e l).2.2 lim ∧ Mod [g] w w' := by
  have H := Lib.hid h
  clear h
  have hu := uintE_lt e l
  have ht : textR lim e l = if (uintE 10 0 0 e l).2.1 ≠ 0 then ([], (uintE 10 0 0 e l).2.1, (uintE 10 0 0 e l).2.2)
    else if max lim 0 < ((uintE 10 0 0 e l).1 : Int) then ([], 11, (uintE 10 0 0 e l).2.2)
    else if (uintE 10 0 0 e l).2.2.length < (uintE 10 0 0 e l).1 then ([], 10, (uintE 10 0 0 e l).2.2)
    else ((uintE 10 0 0 e l).2.2.take (uintE 10 0 0 e l).1, 0, (uintE 10 0 0 e l).2.2.drop (uintE 10 0 0 e l).1) := rfl
  have HT := Lib.hid ht
  clear ht
  go_enter Try.func20, Try.ntmps20
  go_wp2_with fail
  refine (ruint_any g bs e l lim _ H.out).mono ?_
  rintro e1 w1 ⟨rfl, hr1, hm1⟩
  revert hr1 hu HT
  generalize uintE 10 0 0 e l = u
  obtain ⟨n, e2, l2⟩ := u
  intro hu HT hr1
  simp only at hr1 hu ⊢
  have HR1 := Lib.hid hr1
  have HM1 := Lib.hid hm1
  clear hr1 hm1 H
  obtain ⟨ao, cap, c0, c1, c2, fr, h3, h4, h5, h6⟩ := HR1.out.open
  have fr0 := fr 0
  have fr1 := fr 1
  have HS := Lib.hid h5
  have HB := Lib.hid h6
  clear fr h5 h6
  have ht := HT.out
  simp only at ht
  clear HT
  have hw : IntKind.u64.wrap (max lim 0) = max lim 0 := IntWalk.u64_in _ (by omega)
  have hw0 : lim < 0 → max lim 0 = 0 := by omega
  have hw1 : 0 ≤ lim → max lim 0 = lim := by omega
  by_cases he : e2 = 0
  · subst he
    by_cases hlim : max lim 0 < (n : Int)
    · simp only [hlim, ne_eq, not_true_eq_false, if_true, if_false] at ht
      have HT := Lib.hid ht
      clear ht
      rcases Int.lt_or_le lim 0 with hneg | hneg
      all_goals go_wp2_with (first | (go_at_call 19; refine (err_any g bs 0 l2 lim _ HR1.out).mono ?_; rintro e w1 ⟨rfl, rfl⟩) | (go_at_call 21; refine (fail_any g 0 11 _ c0 fr0).mono ?_; rintro e w1 ⟨⟨v, rfl⟩, rfl⟩; simp only [if_true]))
      all_goals go_ret
      all_goals rw [HT.out]
      all_goals exact ⟨rfl, HR1.out.err 11, HM1.out.trans' (Mod.setCell _ _ _ (by simp))⟩
    · by_cases hlen : l2.length < n
      · simp only [hlim, hlen, ne_eq, not_true_eq_false, if_true, if_false] at ht
        have HT := Lib.hid ht
        clear ht
        have hlen' : ((l2.length : Nat) : Int) < (n : Int) := by omega
        have hw3 : IntKind.u64.wrap ((l2.length : Nat) : Int) = ((l2.length : Nat) : Int) := IntWalk.u64_in _ (by omega)
        have hneg : 0 ≤ lim := by omega
        have hlm : ¬ lim < (n : Int) := by omega
        all_goals go_wp2_with (first | (go_at_call 19; refine (err_any g bs 0 l2 lim _ HR1.out).mono ?_; rintro e w1 ⟨rfl, rfl⟩) | (go_at_call 21; refine (fail_any g 0 10 _ c0 fr0).mono ?_; rintro e w1 ⟨⟨v, rfl⟩, rfl⟩; simp only [if_true]))
        all_goals go_ret
        all_goals rw [HT.out]
        all_goals exact ⟨rfl, HR1.out.err 10, HM1.out.trans' (Mod.setCell _ _ _ (by simp))⟩
      · simp only [hlim, hlen, ne_eq, not_true_eq_false, if_false] at ht
        have HT := Lib.hid ht
        clear ht
        have hlen' : ¬ ((l2.length : Nat) : Int) < (n : Int) := by omega
        have hw3 : IntKind.u64.wrap ((l2.length : Nat) : Int) = ((l2.length : Nat) : Int) := IntWalk.u64_in _ (by omega)
        have hnl : n ≤ l2.length := by omega
        have htl : (l2.take n).length = n := by simp; omega
        have hdl : (l2.drop n).length = l2.length - n := by simp
        have HST := Lib.hid (HS.out.take n)
        by_cases hn : n = cap
        · have hl2c : l2.length = n := by omega
          have hd0 : l2.drop n = [] := List.drop_eq_nil_of_le (by omega)
          have ht0 : l2.take n = l2 := List.take_of_length_le (by omega)
          subst hn hl2c
          clear hlen hlen' hnl htl hdl h3
          go_wp2_with (first | (go_at_call 19; refine (err_any g bs 0 l2 lim _ HR1.out).mono ?_; rintro e w1 ⟨rfl, rfl⟩) | (refine wpl_str _ ao _ _ l2 rfl rfl HS.out (by rfl) ?_) | fail)
          all_goals go_ret
          all_goals rw [HT.out, hd0, ht0]
          all_goals exact ⟨rfl, HR1.out.pass (by simp) (by omega) (by omega) (Sees.nil _ _) (fun h => absurd rfl h), HM1.out.trans' (Mod.setCell _ _ _ (by simp))⟩
        · go_wp2_with (first | (go_at_call 19; refine (err_any g bs 0 l2 lim _ HR1.out).mono ?_; rintro e w1 ⟨rfl, rfl⟩) | (refine wpl_str _ ao n cap (l2.take n) rfl htl HST.out (by rfl) ?_) | fail)
          all_goals go_ret
          all_goals rw [HT.out]
          all_goals exact ⟨rfl, HR1.out.pass hdl (by omega) (by omega) (HS.out.dropMap n) (by intro h0 k hk; exact HB.out (fun h => h0 (by rw [h]; simp)) k (by rwa [blk_map] at hk)), HM1.out.trans' (Mod.setCell _ _ _ (by simp))⟩
  · simp only [he, ne_eq, not_false_eq_true, if_true] at ht
    have HT := Lib.hid ht
    clear ht
    go_wp2_with (go_at_call 19; refine (err_any g bs e2 l2 lim _ HR1.out).mono ?_; rintro e w1 ⟨rfl, rfl⟩)
    go_ret
    rw [HT.out]
    exact ⟨rfl, HR1.out, HM1.out⟩
/-- A new reader, of bytes that are seen. -/
theorem newReader_any (ao : Option Addr) (len cap : Nat) (l : List UInt8) (lim : Int) (w : World) (hl : l.length = len) (hc : len ≤ cap) (hm : cap ≤ 9223372036854775807) (hs : Sees w ao l) :
    Calls Try.prog 11 #[.slice ao len cap, .int .i64 lim] w fun r w' => ∃ g, r = .returned (.pointer (some ⟨g, 0, none⟩)) ∧ Rd w' g (blkOf ao l) 0 l lim ∧ Mod [] w w' ∧ w.heap.size ≤ g := by
  subst hl
  go_enter Try.func11, Try.ntmps11
  go_wp2
  go_ret
  exact ⟨w.heap.size, rfl, ⟨fun hk => Nat.lt_irrefl _ (hs.ltOf _ hk), ao, cap, heap_alloc_new w _, hc, hm, hs.mod0 (Mod.alloc _ _ _), blkOf_mem⟩, Mod.alloc _ _ _, Nat.le_refl _⟩
end Go.Proofs.Ytgneigdcgfiooaa
/- Plain laws: what is written is read, what is read is written. No program in sight. -/
namespace Go.Proofs.Ytgneigdcgfiooaa
open Go Go.RowKit

theorem pow_step (i : Nat) : 2 ^ (7 * (i + 1)) = 128 * 2 ^ (7 * i) := by rw [Nat.mul_add, Nat.pow_add, Nat.mul_comm]
theorem pow_back (i : Nat) (h : i ≤ 8) : 2 ^ (64 - 7 * i) = 128 * 2 ^ (64 - 7 * (i + 1)) := by
  have : 64 - 7 * i = 7 + (64 - 7 * (i + 1)) := by omega
  rw [this, Nat.pow_add]
theorem toNat_of (n : Nat) (h : n < 256) : (UInt8.ofNat n).toNat = n := by rw [UInt8.toNat_ofNat']; omega

theorem uintR_write (k : Nat) : ∀ (i acc v : Nat) (rest : List UInt8), i + k + 1 = 10 → v < 2 ^ (64 - 7 * i) → (0 < i → 0 < v) →
    uintR (k + 1) i acc (enc7 v ++ rest) = (acc + v * 2 ^ (7 * i), 0, rest) := by
  induction k with
  | zero =>
    intro i acc v rest hi hv h0
    have hi9 : i = 9 := by omega
    subst hi9
    have hv2 : v < 2 := by simpa using hv
    rw [enc7_small v (by omega)]
    have hn := toNat_of v (by omega)
    have := h0 (by omega)
    simp only [List.singleton_append, uintR, hn]
    rw [if_neg (by omega), if_pos (by omega), Nat.mod_eq_of_lt (by omega)]
  | succ k ih =>
    intro i acc v rest hi hv h0
    by_cases hs : v < 128
    · rw [enc7_small v hs]
      have hn := toNat_of v (by omega)
      simp only [List.singleton_append, uintR, hn]
      rw [if_neg (by rintro (⟨h, _⟩ | ⟨h, h2⟩); omega; have := h0 h; omega), if_pos hs, Nat.mod_eq_of_lt (by omega)]
    · have h64 : v < 18446744073709551616 := by
        have : 2 ^ (64 - 7 * i) ≤ 2 ^ 64 := Nat.pow_le_pow_right (by omega) (by omega)
        omega
      rw [enc7_big v (by omega) h64, List.cons_append]
      have hn := toNat_of (128 + v % 128) (by omega)
      have hu : uintR (k + 1 + 1) i acc (UInt8.ofNat (128 + v % 128) :: (enc7 (v / 128) ++ rest)) = uintR (k + 1) (i + 1) (acc + v % 128 * 2 ^ (7 * i)) (enc7 (v / 128) ++ rest) := by
        rw [uintR, hn, if_neg (by omega), if_neg (by omega), Nat.add_mod_left, Nat.mod_mod]
      have hb := pow_back i (by omega)
      rw [hu, ih (i + 1) _ (v / 128) rest (by omega) (by omega) (by omega), pow_step]
      have e : v % 128 * 2 ^ (7 * i) + v / 128 * (128 * 2 ^ (7 * i)) = v * 2 ^ (7 * i) := by
        rw [← Nat.mul_assoc, ← Nat.add_mul]
        congr 1
        omega
      rw [Nat.add_assoc, e]
theorem uintE_write (v : Nat) (rest : List UInt8) (h : v < 18446744073709551616) : uintE 10 0 0 0 (enc7 v ++ rest) = (v, 0, rest) := by
  have := uintR_write 9 0 0 v rest rfl (by simpa using h) (by omega)
  simpa [uintE] using this

theorem uintR_read (k : Nat) : ∀ (i acc n : Nat) (l r : List UInt8), i + k + 1 = 10 → uintR (k + 1) i acc l = (n, 0, r) →
    ∃ v, v < 2 ^ (64 - 7 * i) ∧ (0 < i → 0 < v) ∧ n = acc + v * 2 ^ (7 * i) ∧ l = enc7 v ++ r := by
  induction k with
  | zero =>
    intro i acc n l r hi h
    have hi9 : i = 9 := by omega
    subst hi9
    cases l with
    | nil => simp [uintR] at h
    | cons c l =>
      rw [uintR] at h
      split at h
      · simp at h
      · rename_i hbad
        split at h
        · simp only [Prod.mk.injEq, true_and] at h
          obtain ⟨rfl, rfl⟩ := h
          refine ⟨c.toNat, by simp; omega, by omega, ?_, ?_⟩
          · rw [Nat.mod_eq_of_lt (by omega)]
          · rw [enc7_small _ (by omega)]; simp
        · exfalso; omega
  | succ k ih =>
    intro i acc n l r hi h
    cases l with
    | nil => simp [uintR] at h
    | cons c l =>
      rw [uintR] at h
      split at h
      · simp at h
      · rename_i hbad
        have hb := pow_back i (by omega)
        have hpos : 0 < 2 ^ (64 - 7 * (i + 1)) := Nat.pow_pos (by omega)
        split at h
        · rename_i h128
          simp only [Prod.mk.injEq, true_and] at h
          obtain ⟨rfl, rfl⟩ := h
          refine ⟨c.toNat, by omega, by omega, ?_, ?_⟩
          · rw [Nat.mod_eq_of_lt h128]
          · rw [enc7_small _ h128]; simp
        · rename_i h128
          obtain ⟨v, hv, h0, rfl, rfl⟩ := ih _ _ _ _ _ (by omega) h
          have hc := c.toNat_lt
          have hv0 := h0 (by omega)
          have hp := pow_step i
          refine ⟨c.toNat % 128 + 128 * v, by omega, by omega, ?_, ?_⟩
          · rw [hp, Nat.add_mul, Nat.add_assoc]
            congr 2
            rw [Nat.mul_comm 128 v, Nat.mul_assoc]
          · have h64 : c.toNat % 128 + 128 * v < 18446744073709551616 := by
              have : 2 ^ (64 - 7 * i) ≤ 2 ^ 64 := Nat.pow_le_pow_right (by omega) (by omega)
              omega
            have e1 : (c.toNat % 128 + 128 * v) / 128 = v := by omega
            have e2 : 128 + (c.toNat % 128 + 128 * v) % 128 = c.toNat := by omega
            rw [enc7_big _ (by omega) h64, e1, e2]
            simp
theorem uintE_read (n : Nat) (l r : List UInt8) (h : uintE 10 0 0 0 l = (n, 0, r)) : l = enc7 n ++ r := by
  obtain ⟨v, _, _, h1, h2⟩ := uintR_read 9 0 0 n l r rfl (by simpa [uintE] using h)
  simp at h1
  rw [h1]; exact h2
theorem enc7_inj (n m : Nat) (hn : n < 18446744073709551616) (hm : m < 18446744073709551616) (h : enc7 n = enc7 m) : n = m := by
  have h1 := uintE_write n [] hn
  have h2 := uintE_write m [] hm
  rw [h, h2] at h1
  simp at h1
  exact h1.symm
theorem zag_zig (m : Int) : zag (zig m) = m := by
  unfold zag zig
  split <;> split <;> omega
/-- A text that is written, read. -/
theorem textR_write (lim : Int) (t rest : List UInt8) (h : (t.length : Int) ≤ lim) (h2 : t.length < 18446744073709551616) : textR lim 0 (enc7 t.length ++ t ++ rest) = (t, 0, rest) := by
  unfold textR
  rw [List.append_assoc, uintE_write _ _ h2]
  simp only [ne_eq, not_true_eq_false, if_false]
  rw [if_neg (by omega), if_neg (by simp)]
  simp
/-- Without its last byte. -/
theorem textR_short (lim : Int) (t : List UInt8) (h : (t.length : Int) ≤ lim) (h2 : t.length < 18446744073709551616) : (textR lim 0 (enc7 t.length ++ t).dropLast).2.1 = 10 := by
  by_cases ht : t = []
  · subst ht
    have : (enc7 ([] : List UInt8).length ++ []).dropLast = [] := by decide
    rw [this]
    rfl
  · have e : (enc7 t.length ++ t).dropLast = enc7 t.length ++ t.dropLast := by rw [List.dropLast_append_of_ne_nil ht]
    have hp : 0 < t.length := List.length_pos_iff.2 ht
    unfold textR
    rw [e, uintE_write _ _ h2]
    simp only [ne_eq, not_true_eq_false, if_false]
    rw [if_neg (by omega), if_pos (by simp; omega)]
end Go.Proofs.Ytgneigdcgfiooaa
/- A table as bytes: the plain law, and the walk of Put. -/
namespace Go.Proofs.Ytgneigdcgfiooaa
open Go Go.RowKit Go.Shelf Go.MapKept
attribute [local go_sem] Oper.semAt_some

/-- A client's row: its number, its last number, the code, the text. -/
abbrev Cl := Nat × Nat × Nat × ByteArray
def clE (x : Cl) : Ent := ((x.2.1 : Int), (x.2.2.1 : Int), x.2.2.2)
def ClOk (x : Cl) : Prop := x.1 < 4294967296 ∧ x.2.1 < 4294967296 ∧ x.2.2.1 < 256 ∧ x.2.2.2.size ≤ 1000000
/-- The table's rows, in order. -/
def TabE (f : Int → Option Ent) (E : List Cl) : Prop := E.Pairwise (fun x y => x.1 < y.1) ∧ (∀ x ∈ E, ClOk x) ∧ ∀ z v, f z = some v ↔ ∃ x ∈ E, z = (x.1 : Int) ∧ v = clE x
def clB (x : Cl) : List UInt8 := enc7 x.1 ++ enc7 x.2.1 ++ enc7 x.2.2.1 ++ (enc7 x.2.2.2.size ++ x.2.2.2.data.toList)
def tabB (E : List Cl) : List UInt8 := enc7 E.length ++ E.flatMap clB
theorem mapV_some {f : Int → Option Ent} {k : Value} (h : (mapV f k).isSome = true) : ∃ z, k = .int .u32 z ∧ (f z).isSome = true := by
  cases k with
  | int q z =>
    cases q <;> simp [mapV] at h
    exact ⟨z, rfl, h⟩
  | _ => simp [mapV] at h
theorem MapF.count {w : World} {b n : Nat} {d : TypeDesc} {f : Value → Option Value} (h : MapF w b d n f) {ks : List Value} (h1 : ks.Nodup) (h2 : ∀ k, k ∈ ks ↔ (f k).isSome = true) : ks.length = n := by
  obtain ⟨es, clock, e1, e2, e3, e4, e5⟩ := h
  have hp : ks.Perm (es.toList.map (·.key)) := by
    rw [List.perm_ext_iff_of_nodup h1 e3.2.2]
    intro k
    rw [h2, List.mem_map]
    constructor
    · intro hk
      obtain ⟨v, hv⟩ := Option.isSome_iff_exists.1 hk
      obtain ⟨x, hx, hx1, _⟩ := (e5 k v).1 hv
      exact ⟨x, hx, hx1⟩
    · rintro ⟨x, hx, rfl⟩
      rw [(e5 x.key x.val).2 ⟨x, hx, rfl, rfl⟩]
      rfl
  rw [hp.length_eq, List.length_map, Array.length_toList, e2]
theorem TabE.nodup {f : Int → Option Ent} {E : List Cl} (h : TabE f E) : (E.map fun x => u32V x.1).Nodup := by
  unfold List.Nodup
  rw [List.pairwise_map]
  refine h.1.imp fun {a b} hab he => ?_
  have := (Value.int.inj he).2
  omega
theorem TabE.mem {f : Int → Option Ent} {E : List Cl} (h : TabE f E) (k : Value) : k ∈ (E.map fun x => u32V x.1) ↔ (mapV f k).isSome = true := by
  rw [List.mem_map]
  constructor
  · rintro ⟨x, hx, rfl⟩
    show ((f (x.1 : Int)).map entV).isSome = true
    rw [(h.2.2 _ _).2 ⟨x, hx, rfl, rfl⟩]
    rfl
  · intro hk
    obtain ⟨z, rfl, hz⟩ := mapV_some hk
    obtain ⟨v, hv⟩ := Option.isSome_iff_exists.1 hz
    obtain ⟨x, hx, rfl, _⟩ := (h.2.2 z v).1 hv
    exact ⟨x, hx, rfl⟩
/-- A sorted row of the table's keys is the rows' keys in order. -/
theorem TabE.sorted {f : Int → Option Ent} {E : List Cl} (h : TabE f E) {ks : List Value} (h1 : ks.Nodup) (h2 : ∀ k, k ∈ ks ↔ (mapV f k).isSome = true) {d d' : Array Nat} (hd : d.toList.map u32V = ks) (hp : d'.toList.Perm d.toList) (hs : Sort.SortedIn ltN 0 d.size d') : d'.toList = E.map (·.1) := by
  have hperm : (d'.toList.map u32V).Perm (E.map fun x => u32V x.1) := by
    rw [← hd] at h1 h2
    refine (hp.map u32V).trans ?_
    rw [List.perm_ext_iff_of_nodup h1 h.nodup]
    intro k
    rw [h2, h.mem]
  have hperm2 : d'.toList.Perm (E.map (·.1)) := by
    have e : (E.map fun x => u32V x.1) = (E.map (·.1)).map u32V := by rw [List.map_map]; first | done | rfl
    rw [e] at hperm
    have g : ∀ l : List Nat, (l.map u32V).map (fun v => match v with | .int _ z => z.toNat | _ => 0) = l := fun l => by
      rw [List.map_map]
      conv => rhs; rw [← List.map_id l]
      refine List.map_congr_left fun a _ => ?_
      show ((a : Int)).toNat = a
      simp
    have := hperm.map (fun v => match v with | .int _ z => z.toNat | _ => 0)
    rwa [g, g] at this
  have hsz : d'.toList.length = d.size := by rw [hp.length_eq, Array.length_toList]
  have hle : d'.toList.Pairwise (· ≤ ·) := by
    rw [List.pairwise_iff_getElem]
    intro i j hi hj hij
    have := hs i j (Nat.zero_le _) hij (by omega)
    have e1 : d'[i]! = d'.toList[i] := by simp [show i < d'.size by simpa using hi]
    have e2 : d'[j]! = d'.toList[j] := by simp [show j < d'.size by simpa using hj]
    rw [e1, e2, ltN_false] at this
    exact this
  have hle2 : (E.map (·.1)).Pairwise (· ≤ ·) := by
    rw [List.pairwise_map]
    exact h.1.imp fun hab => Nat.le_of_lt hab
  exact hperm2.eq_of_pairwise (le := (· ≤ ·)) (fun a b _ _ h1 h2 => Nat.le_antisymm h1 h2) hle hle2
end Go.Proofs.Ytgneigdcgfiooaa
/- What is read as a table: the plain law. -/
namespace Go.Proofs.Ytgneigdcgfiooaa
open Go Go.RowKit

theorem uintR_codes : ∀ (k i acc : Nat) (l : List UInt8), (uintR k i acc l).2.1 = 0 ∨ (uintR k i acc l).2.1 = 10 ∨ (uintR k i acc l).2.1 = 11 := by
  intro k
  induction k with
  | zero => intro i acc l; cases l <;> simp [uintR]
  | succ k ih =>
    intro i acc l
    cases l with
    | nil => simp [uintR]
    | cons c r =>
      simp only [uintR]
      split
      · simp
      · split
        · simp
        · exact ih _ _ _
def Ec (e : Int) : Prop := e = 0 ∨ e = 10 ∨ e = 11
theorem uintE_codes {e : Int} (l : List UInt8) (h : Ec e) : Ec (uintE 10 0 0 e l).2.1 := by
  unfold uintE
  split
  · exact uintR_codes _ _ _ _
  · exact h
theorem textR_codes {e : Int} (l : List UInt8) (h : Ec e) : Ec (textR 100 e l).2.1 := by
  unfold textR
  split
  · exact uintE_codes l h
  · split
    · exact .inr (.inr rfl)
    · split
      · exact .inr (.inl rfl)
      · exact .inl rfl
/-- A row is read. -/
def ru1 (e : Int) (l : List UInt8) := uintE 10 0 0 e l
def ru2 (e : Int) (l : List UInt8) := uintE 10 0 0 (ru1 e l).2.1 (ru1 e l).2.2
def ru3 (e : Int) (l : List UInt8) := uintE 10 0 0 (ru2 e l).2.1 (ru2 e l).2.2
def ru4 (e : Int) (l : List UInt8) := textR 100 (ru3 e l).2.1 (ru3 e l).2.2
theorem ru4_codes {e : Int} (l : List UInt8) (h : Ec e) : Ec (ru4 e l).2.1 := textR_codes _ (uintE_codes _ (uintE_codes _ (uintE_codes _ h)))
theorem uintE_zero {e : Int} {l : List UInt8} (h : (uintE 10 0 0 e l).2.1 = 0) : e = 0 := by
  by_cases he : e = 0
  · exact he
  · rw [uintE_err _ _ _ _ _ he] at h
    exact absurd h he
def rowOf (l : List UInt8) : Cl := ((ru1 0 l).1, (ru2 0 l).1, (ru3 0 l).1, ⟨(ru4 0 l).1.toArray⟩)
theorem triple {p : Nat × Int × List UInt8} (h : p.2.1 = 0) : p = (p.1, 0, p.2.2) := by
  obtain ⟨a, b, c⟩ := p
  cases h
  rfl
theorem row_read {l : List UInt8} (h : (ru4 0 l).2.1 = 0) : l = clB (rowOf l) ++ (ru4 0 l).2.2 ∧ (rowOf l).2.2.2.size ≤ 100 := by
  have h4 : (uintE 10 0 0 (ru3 0 l).2.1 (ru3 0 l).2.2).2.1 = 0 := by
    unfold ru4 textR at h
    split at h
    · rename_i hc
      exact absurd h hc
    · rename_i hc
      exact Classical.not_not.1 hc
  have h3 : (ru3 0 l).2.1 = 0 := uintE_zero h4
  have h2 : (ru2 0 l).2.1 = 0 := uintE_zero h3
  have h1 : (ru1 0 l).2.1 = 0 := uintE_zero h2
  have a2 : uintE 10 0 0 0 (ru1 0 l).2.2 = ru2 0 l := by unfold ru2; rw [h1]
  have a3 : uintE 10 0 0 0 (ru2 0 l).2.2 = ru3 0 l := by unfold ru3; rw [h2]
  have e1 : l = enc7 (ru1 0 l).1 ++ (ru1 0 l).2.2 := uintE_read _ _ _ (triple h1)
  have e2 : (ru1 0 l).2.2 = enc7 (ru2 0 l).1 ++ (ru2 0 l).2.2 := uintE_read _ _ _ (a2.trans (triple h2))
  have e3 : (ru2 0 l).2.2 = enc7 (ru3 0 l).1 ++ (ru3 0 l).2.2 := uintE_read _ _ _ (a3.trans (triple h3))
  obtain ⟨⟨m, em, rm⟩, hm⟩ : ∃ x, uintE 10 0 0 0 (ru3 0 l).2.2 = x := ⟨_, rfl⟩
  have hem : em = 0 := by rw [h3, hm] at h4; exact h4
  subst hem
  have e4 := uintE_read _ _ _ hm
  have hu : ru4 0 l = if max (100 : Int) 0 < (m : Int) then ([], 11, rm) else if rm.length < m then ([], 10, rm) else (rm.take m, 0, rm.drop m) := by
    unfold ru4 textR
    rw [h3, hm]
    simp
  by_cases c1 : max (100 : Int) 0 < (m : Int)
  · rw [if_pos c1] at hu
    rw [hu] at h
    simp at h
  · by_cases c2 : rm.length < m
    · rw [if_neg c1, if_pos c2] at hu
      rw [hu] at h
      simp at h
    · rw [if_neg c1, if_neg c2] at hu
      have em2 : (ru4 0 l).1.length = m := by rw [hu]; simp; omega
      have hsz : (rowOf l).2.2.2.size = m := by
        show (⟨(ru4 0 l).1.toArray⟩ : ByteArray).size = m
        rw [← size_data]
        simpa using em2
      refine ⟨?_, by rw [hsz]; omega⟩
      have ed : (rowOf l).2.2.2.data.toList = rm.take m := by
        show (ru4 0 l).1.toArray.toList = _
        rw [hu]
      unfold clB
      rw [hsz, ed, hu]
      show l = enc7 (ru1 0 l).1 ++ enc7 (ru2 0 l).1 ++ enc7 (ru3 0 l).1 ++ (enc7 m ++ rm.take m) ++ rm.drop m
      have e5 : rm.take m ++ rm.drop m = rm := List.take_append_drop _ _
      calc l = enc7 (ru1 0 l).1 ++ (enc7 (ru2 0 l).1 ++ (enc7 (ru3 0 l).1 ++ (enc7 m ++ rm))) := by rw [← e4, ← e3, ← e2, ← e1]
        _ = _ := by simp only [List.append_assoc, e5]
theorem row_write {x : Cl} (r : List UInt8) (h : ClOk x) (h2 : x.2.2.2.size ≤ 100) : (ru4 0 (clB x ++ r)).2.1 = 0 ∧ rowOf (clB x ++ r) = x ∧ (ru4 0 (clB x ++ r)).2.2 = r := by
  obtain ⟨c, s, cd, t⟩ := x
  obtain ⟨h1, h3, h4, h5⟩ := h
  dsimp only at h1 h3 h4 h5 h2
  have hb : clB (c, s, cd, t) ++ r = enc7 c ++ (enc7 s ++ (enc7 cd ++ (enc7 t.data.toList.length ++ t.data.toList ++ r))) := by
    unfold clB
    simp only [List.append_assoc, size_data]
  have a1 : ru1 0 (clB (c, s, cd, t) ++ r) = (c, 0, enc7 s ++ (enc7 cd ++ (enc7 t.data.toList.length ++ t.data.toList ++ r))) := by
    unfold ru1; rw [hb, uintE_write _ _ (by omega)]
  have a2 : ru2 0 (clB (c, s, cd, t) ++ r) = (s, 0, enc7 cd ++ (enc7 t.data.toList.length ++ t.data.toList ++ r)) := by
    unfold ru2; rw [a1]; exact uintE_write _ _ (by omega)
  have a3 : ru3 0 (clB (c, s, cd, t) ++ r) = (cd, 0, enc7 t.data.toList.length ++ t.data.toList ++ r) := by
    unfold ru3; rw [a2]; exact uintE_write _ _ (by omega)
  have a4 : ru4 0 (clB (c, s, cd, t) ++ r) = (t.data.toList, 0, r) := by
    unfold ru4; rw [a3]; exact textR_write 100 _ _ (by rw [size_data]; omega) (by rw [size_data]; omega)
  refine ⟨by rw [a4], ?_, by rw [a4]⟩
  unfold rowOf
  rw [a1, a2, a3, a4]
/-- Rows that may be put and taken. -/
def GoodE (E : List Cl) : Prop := E.Pairwise (fun x y => x.1 < y.1) ∧ ∀ x ∈ E, ClOk x ∧ 0 < x.1 ∧ x.2.2.1 ≤ 3 ∧ x.2.2.2.size ≤ 100
theorem rows_unique : ∀ (F E : List Cl) (rest : List UInt8), (∀ x ∈ F, ClOk x ∧ x.2.2.2.size ≤ 100) → (∀ x ∈ E, ClOk x ∧ x.2.2.2.size ≤ 100) → F.length ≤ E.length → F.flatMap clB ++ rest = E.flatMap clB → F = E.take F.length ∧ rest = (E.drop F.length).flatMap clB := by
  intro F
  induction F with
  | nil => intro E rest _ _ _ h; exact ⟨rfl, by simpa using h⟩
  | cons x F ih =>
    intro E rest hF hE hl h
    cases E with
    | nil => simp at hl
    | cons y E =>
      rw [List.flatMap_cons, List.flatMap_cons, List.append_assoc] at h
      have w1 := row_write (F.flatMap clB ++ rest) (hF x (List.mem_cons_self ..)).1 (hF x (List.mem_cons_self ..)).2
      have w2 := row_write (E.flatMap clB) (hE y (List.mem_cons_self ..)).1 (hE y (List.mem_cons_self ..)).2
      rw [h] at w1
      have exy : x = y := w1.2.1.symm.trans w2.2.1
      have er : F.flatMap clB ++ rest = E.flatMap clB := w1.2.2.symm.trans w2.2.2
      obtain ⟨h1, h2⟩ := ih E rest (fun z hz => hF z (List.mem_cons_of_mem _ hz)) (fun z hz => hE z (List.mem_cons_of_mem _ hz)) (by simpa using hl) er
      refine ⟨?_, by simpa using h2⟩
      rw [exy]
      show y :: F = y :: E.take F.length
      rw [← h1]
/-- How far the reading has come. -/
def TakeI (l : List UInt8) (nn before : Nat) (F : List Cl) (rest : List UInt8) : Prop :=
  l = enc7 nn ++ F.flatMap clB ++ rest ∧ nn < 18446744073709551616 ∧ GoodE F ∧ (∀ x ∈ F, x.1 ≤ before) ∧ (F = [] → before = 0) ∧ (F ≠ [] → ∃ x ∈ F, x.1 = before)
/-- No good rows have these bytes. -/
def BadL (l : List UInt8) : Prop := ∀ E, GoodE E → l ≠ tabB E
theorem TakeI.knows {l rest : List UInt8} {nn before : Nat} {F E : List Cl} (h : TakeI l nn before F rest) (hE : GoodE E) (he : l = tabB E) (hlen : E.length < 18446744073709551616) (hF : F.length ≤ nn) : nn = E.length ∧ F = E.take F.length ∧ rest = (E.drop F.length).flatMap clB := by
  obtain ⟨h1, h2, h3, _⟩ := h
  rw [he] at h1
  unfold tabB at h1
  have a1 := uintE_write E.length (E.flatMap clB) hlen
  rw [h1, List.append_assoc, uintE_write nn _ h2] at a1
  have e1 : nn = E.length := congrArg Prod.fst a1
  have e2 : F.flatMap clB ++ rest = E.flatMap clB := congrArg (fun p => p.2.2) a1
  have := rows_unique F E rest (fun x hx => ⟨(h3.2 x hx).1, (h3.2 x hx).2.2.2⟩) (fun x hx => ⟨(hE.2 x hx).1, (hE.2 x hx).2.2.2⟩) (by omega) e2
  exact ⟨e1, this⟩
/-- A row of good rows is read well. -/
theorem TakeI.step {l rest : List UInt8} {nn before : Nat} {F E : List Cl} (h : TakeI l nn before F rest) (hE : GoodE E) (he : l = tabB E) (hlen : E.length < 18446744073709551616) (hF : F.length < nn) :
    (ru4 0 rest).2.1 = 0 ∧ before < (rowOf rest).1 ∧ (rowOf rest).1 < 4294967296 ∧ (rowOf rest).2.1 < 4294967296 ∧ (rowOf rest).2.2.1 ≤ 3 := by
  obtain ⟨k1, k2, k3⟩ := h.knows hE he hlen (by omega)
  obtain ⟨_, _, _, h4, h5, h6⟩ := h
  have hl : F.length < E.length := by omega
  have hd : E.drop F.length = E[F.length] :: E.drop (F.length + 1) := List.drop_eq_getElem_cons hl
  rw [hd, List.flatMap_cons] at k3
  have hx := hE.2 _ (List.getElem_mem hl)
  have w := row_write ((E.drop (F.length + 1)).flatMap clB) hx.1 hx.2.2.2
  rw [← k3] at w
  rw [w.2.1]
  refine ⟨w.1, ?_, hx.1.1, hx.1.2.1, hx.2.2.1⟩
  by_cases hF0 : F = []
  · rw [h5 hF0]; exact hx.2.1
  · obtain ⟨y, hy, hyb⟩ := h6 hF0
    rw [← hyb]
    rw [k2] at hy
    obtain ⟨i, hi, rfl⟩ := List.getElem_of_mem hy
    rw [List.getElem_take]
    rw [List.length_take] at hi
    exact List.pairwise_iff_getElem.1 hE.1 i F.length (by omega) hl (by omega)
theorem TakeI.next {l rest : List UInt8} {nn before : Nat} {F : List Cl} (h : TakeI l nn before F rest) (h4 : (ru4 0 rest).2.1 = 0) (hb : before < (rowOf rest).1) (h1 : (rowOf rest).1 < 4294967296) (h2 : (rowOf rest).2.1 < 4294967296) (h3 : (rowOf rest).2.2.1 ≤ 3) :
    TakeI l nn (rowOf rest).1 (F ++ [rowOf rest]) (ru4 0 rest).2.2 := by
  obtain ⟨k1, k2, k3, k4, k5, k6⟩ := h
  obtain ⟨r1, r2⟩ := row_read h4
  refine ⟨?_, k2, ⟨?_, ?_⟩, ?_, ?_, ?_⟩
  · rw [k1]
    conv => lhs; rw [r1]
    rw [List.flatMap_append]
    simp
  · rw [List.pairwise_append]
    refine ⟨k3.1, by simp, fun a ha b hb' => ?_⟩
    rw [List.mem_singleton] at hb'
    rw [hb']
    have := k4 a ha
    omega
  · intro x hx
    rw [List.mem_append, List.mem_singleton] at hx
    rcases hx with hx | rfl
    · exact k3.2 x hx
    · exact ⟨⟨h1, h2, by omega, by omega⟩, by omega, h3, r2⟩
  · intro x hx
    rw [List.mem_append, List.mem_singleton] at hx
    rcases hx with hx | rfl
    · have := k4 x hx; omega
    · exact Nat.le_refl _
  · intro hh; simp at hh
  · intro _; exact ⟨_, List.mem_append_right _ (List.mem_singleton.2 rfl), rfl⟩
end Go.Proofs.Ytgneigdcgfiooaa
/- The walk of session.Take. -/
namespace Go.Proofs.Ytgneigdcgfiooaa
open Go Go.RowKit Go.Lib Go.MapKept

theorem flat_ge (E : List Cl) : E.length ≤ (E.flatMap clB).length := by
  induction E with
  | nil => simp
  | cons x r ih =>
    rw [List.flatMap_cons, List.length_append, List.length_cons]
    have : 1 ≤ (clB x).length := by
      unfold clB
      simp only [List.length_append]
      have := (enc7_length x.1).1
      omega
    omega
def TakeTR (w : World) (l : List UInt8) (gr : Nat) (bs : List Nat) (e : Ending) (w' : World) : Prop :=
  Mod [gr] w w' ∧ ((∃ x : Int, e = .returned (.tuple #[.pointer none, .int .i64 x]) ∧ (x = 10 ∨ x = 11) ∧ Hid (BadL l)) ∨
    ∃ (gt b n : Nat) (f : Int → Option Ent) (F : List Cl) (rest : List UInt8), e = .returned (.tuple #[.pointer (some ⟨gt, 0, none⟩), .int .i64 0]) ∧ Tab w' gt b n f ∧ TabE f F ∧ GoodE F ∧ l = tabB F ++ rest ∧ Rd w' gr bs 0 rest 100 ∧ w.heap.size ≤ b)
theorem Tab.modS {w w' : World} {g b n : Nat} {f : Int → Option Ent} (h : Tab w g b n f) {c : Array Value} {z : Nat × Nat} {gr : Nat} (hr : w.heap[gr]? = some (.cells c 59 z)) (hm : Mod [gr] w w') : Tab w' g b n f := by
  obtain ⟨gc, h1, h2, h3⟩ := h
  have e1 : g ≠ gr := by rintro rfl; rw [h1] at hr; cases hr
  have e2 : gc ≠ gr := by rintro rfl; rw [h2] at hr; cases hr
  have e3 : b ≠ gr := fun e => h3.cell_ne hr e.symm
  exact ⟨gc, hm.get h1 (by simp; exact e1), hm.get h2 (by simp; exact e2), h3.mod hm (by simp; exact e3)⟩
theorem Tab.modR8 {w w' : World} {g b n gr : Nat} {f : Int → Option Ent} {bs : List Nat} {e lim : Int} {l : List UInt8} (h : Tab w g b n f) (hr : Rd w gr bs e l lim) (hm : Mod [gr] w w') : Tab w' g b n f := by
  obtain ⟨_, ao, cap, h0, _⟩ := hr
  exact h.modS h0 hm
theorem tabE_snoc {f : Int → Option Ent} {F : List Cl} (h : TabE f F) (x : Cl) (hx : ClOk x) (hb : ∀ y ∈ F, y.1 < x.1) : TabE (fun z => if z = (x.1 : Int) then some (clE x) else f z) (F ++ [x]) := by
  refine ⟨?_, ?_, fun z v => ?_⟩
  · rw [List.pairwise_append]
    refine ⟨h.1, by simp, fun a ha b hb' => ?_⟩
    rw [List.mem_singleton] at hb'
    rw [hb']
    exact hb a ha
  · intro y hy
    rw [List.mem_append, List.mem_singleton] at hy
    rcases hy with hy | rfl
    · exact h.2.1 y hy
    · exact hx
  · show (if z = (x.1 : Int) then some (clE x) else f z) = some v ↔ _
    by_cases hz : z = (x.1 : Int)
    · rw [if_pos hz]
      constructor
      · intro e
        cases e
        exact ⟨x, by simp, hz, rfl⟩
      · rintro ⟨y, hy, e1, e2⟩
        rw [List.mem_append, List.mem_singleton] at hy
        rcases hy with hy | rfl
        · have := hb y hy
          omega
        · rw [e2]
    · rw [if_neg hz, h.2.2]
      constructor
      · rintro ⟨y, hy, e1, e2⟩
        exact ⟨y, List.mem_append_left _ hy, e1, e2⟩
      · rintro ⟨y, hy, e1, e2⟩
        rw [List.mem_append, List.mem_singleton] at hy
        rcases hy with hy | rfl
        · exact ⟨y, hy, e1, e2⟩
        · exact absurd e1 hz
set_option maxRecDepth 100000 in
set_option maxHeartbeats 4000000 in
theorem ttake_any (gr : Nat) (bs : List Nat) (l : List UInt8) (w : World) (h : Rd w gr bs 0 l 100) (hbs : ∀ k, k ∈ bs → k < w.heap.size) (hl : l.length ≤ 1000000000) :
    Calls Try.prog 12 #[.pointer (some ⟨gr, 0, none⟩)] w (TakeTR w l gr bs) := by
  have H := Lib.hid h
  have HBAD : Hid (∀ {nn bf : Nat} {F : List Cl} {rest : List UInt8}, TakeI l nn bf F rest → F.length < nn → ¬ ((ru4 0 rest).2.1 = 0 ∧ bf < (rowOf rest).1 ∧ (rowOf rest).1 < 4294967296 ∧ (rowOf rest).2.1 < 4294967296 ∧ (rowOf rest).2.2.1 ≤ 3) → BadL l) := Lib.hid fun hI hF hno E hE he => by
    have hlen : E.length < 18446744073709551616 := by
      have e1 := flat_ge E
      have e2 := congrArg List.length he
      unfold tabB at e2
      rw [List.length_append] at e2
      omega
    exact hno (hI.step hE he hlen hF)
  have HBAD0 : Hid ((ru1 0 l).2.1 ≠ 0 → BadL l) := Lib.hid fun hno E hE he => by
    have hlen : E.length < 18446744073709551616 := by
      have e1 := flat_ge E
      have e2 := congrArg List.length he
      unfold tabB at e2
      rw [List.length_append] at e2
      omega
    refine hno ?_
    unfold ru1
    rw [he]
    unfold tabB
    rw [uintE_write _ _ hlen]
  have HI0 : Hid ((ru1 0 l).2.1 = 0 → TakeI l (ru1 0 l).1 0 [] (ru1 0 l).2.2) := Lib.hid fun h0 => ⟨by
    have := uintE_read (ru1 0 l).1 l (ru1 0 l).2.2 (triple h0)
    simpa using this, uintE_lt 0 l, ⟨List.Pairwise.nil, fun x hx => by simp at hx⟩, fun x hx => by simp at hx, fun _ => rfl, fun h => absurd rfl h⟩
  have HU1 := Lib.hid (uintE_lt 0 l)
  have HC1 : Hid (Ec (ru1 0 l).2.1) := Lib.hid (uintE_codes l (.inl rfl))
  unfold TakeTR
  clear h
  go_enter Try.func12, Try.ntmps12
  go_wp2_with fail
  refine (new_any w).mono ?_
  rintro e w1 ⟨gt, b, rfl, ht1, m1, hb⟩
  have HT1 := Lib.hid ht1
  have HM1 := Lib.hid m1
  have HR1 := Lib.hid (H.out.mod0 m1)
  have HUI := Lib.hid (ruint_any gr bs 0 l 100 w1 HR1.out)
  clear ht1 m1
  go_wp2_with fail
  refine HUI.out.mono ?_
  rintro e w2 ⟨rfl, hr2, m2⟩
  have HT2 := Lib.hid (HT1.out.modR8 HR1.out m2)
  have HM2 := Lib.hid (HM1.out.nil.trans' m2)
  have hgr := hr2.lt
  obtain ⟨⟨nn, e1, l1⟩, hu⟩ : ∃ x, ru1 0 l = x := ⟨_, rfl⟩
  have hu' : uintE 10 0 0 0 l = (nn, e1, l1) := hu
  rw [hu'] at hr2 HU1
  rw [hu] at HBAD0 HI0 HC1
  rw [hu']
  dsimp only at hr2 HU1 HBAD0 HI0 HC1 ⊢
  have HR2 := Lib.hid hr2
  have hnn := HU1.out
  clear hr2 m2 hu hu' HUI HT1 HR1 HM1 H HU1
  go_wp2
  go_loopw [6, 7] (fun s6 s7 wr => ∃ (i bf nt : Nat) (f : Int → Option Ent) (ec : Int) (rest : List UInt8), s7 = .int .u64 (i : Int) ∧ s6 = .int .u64 (bf : Int) ∧ Tab wr gt b nt f ∧ Rd wr gr bs ec rest 100 ∧ Hid (Ec ec) ∧ Mod [gr, b] w2 wr ∧ i ≤ nn ∧ bf < 18446744073709551616 ∧ Hid (ec ≠ 0 → BadL l) ∧ Hid (ec = 0 → ∃ F : List Cl, F.length = i ∧ TakeI l nn bf F rest ∧ TabE f F)) (fun _ s7 _ => nn - (RowKit.intOf s7).toNat)
  case atStart =>
    exact ⟨0, 0, 0, fun _ => none, e1, l1, rfl, rfl, HT2.out, HR2.out, HC1, Mod.refl _ _, Nat.zero_le _, by omega, HBAD0, Lib.hid fun h0 => ⟨[], rfl, HI0.out h0, ⟨List.Pairwise.nil, fun x hx => by simp at hx, fun z v => by simp⟩⟩⟩
  case round =>
    obtain ⟨i, bf, nt, f, ec, rest, rfl, rfl, hT, hR, HEC, hM, hin, hbf, HB1, HI1⟩ := hrel
    have HT := Lib.hid hT
    have HR := Lib.hid hR
    have HM := Lib.hid hM
    clear hT hR hM
    have hgb : gr ≠ b := by
      obtain ⟨_, ao, cap, h0, _⟩ := HR.out
      obtain ⟨_, _, _, h3⟩ := HT.out
      exact h3.cell_ne h0
    have FINM : Hid (∀ v, Mod [gr, b] w2 v → Mod [gr] w v) := Lib.hid fun v hv => HM2.out.trans hv (fun i hi hl => by
      simp only [List.mem_cons, List.not_mem_nil, or_false] at hi
      rcases hi with rfl | rfl
      · simp
      · omega)
    by_cases hlt : i < nn
    · have DI : decide (i < nn) = true := decide_eq_true hlt
      have DI2 : decide ((i : Int) < (nn : Int)) = true := decide_eq_true (by omega)
      by_cases hec : ec = 0
      · subst hec
        obtain ⟨F, hF, hTI, hTE⟩ := HI1.out rfl
        have HERR := Lib.hid (err_any gr bs 0 rest 100 wr HR.out)
        obtain ⟨⟨c, a1, r1⟩, hu1⟩ : ∃ x, ru1 0 rest = x := ⟨_, rfl⟩
        obtain ⟨⟨sq, a2, r2⟩, hu2⟩ : ∃ x, ru2 0 rest = x := ⟨_, rfl⟩
        obtain ⟨⟨cd, a3, r3⟩, hu3⟩ : ∃ x, ru3 0 rest = x := ⟨_, rfl⟩
        obtain ⟨⟨tx, a4, r4⟩, hu4⟩ : ∃ x, ru4 0 rest = x := ⟨_, rfl⟩
        have g1 : uintE 10 0 0 0 rest = (c, a1, r1) := hu1
        have g2 : uintE 10 0 0 a1 r1 = (sq, a2, r2) := by rw [← hu2]; unfold ru2; rw [hu1]
        have g3 : uintE 10 0 0 a2 r2 = (cd, a3, r3) := by rw [← hu3]; unfold ru3; rw [hu2]
        have g4 : textR 100 a3 r3 = (tx, a4, r4) := by rw [← hu4]; unfold ru4; rw [hu3]
        obtain ⟨tb, htb⟩ : ∃ q : ByteArray, (⟨tx.toArray⟩ : ByteArray) = q := ⟨_, rfl⟩
        have hrow : rowOf rest = (c, sq, cd, tb) := by unfold rowOf; rw [hu1, hu2, hu3, hu4, ← htb]
        have HTB := Lib.hid htb
        clear htb
        have l1' := uintE_lt 0 rest
        rw [g1] at l1'
        have l2' := uintE_lt a1 r1
        rw [g2] at l2'
        have l3' := uintE_lt a2 r2
        rw [g3] at l3'
        dsimp only at l1' l2' l3'
        have hcodes := ru4_codes rest (.inl rfl : Ec 0)
        rw [hu4] at hcodes
        have HCO := Lib.hid hcodes
        have HNO : Hid (¬ (a4 = 0 ∧ bf < c ∧ c < 4294967296 ∧ sq < 4294967296 ∧ cd ≤ 3) → BadL l) := Lib.hid fun hno => HBAD.out hTI (by omega) (by rw [hrow, hu4]; exact hno)
        have HNX : Hid (a4 = 0 → bf < c → c < 4294967296 → sq < 4294967296 → cd ≤ 3 → ∃ F' : List Cl, F'.length = i + 1 ∧ TakeI l nn c F' r4 ∧ TabE (fun z => if z = (c : Int) then some ((sq : Int), (cd : Int), tb) else f z) F') := Lib.hid fun h0 h1 h2 h3 h4 => by
          have hn := hTI.next (by rw [hu4]; exact h0) (by rw [hrow]; exact h1) (by rw [hrow]; exact h2) (by rw [hrow]; exact h3) (by rw [hrow]; exact h4)
          rw [hrow, hu4] at hn
          refine ⟨F ++ [(c, sq, cd, tb)], by rw [List.length_append, hF]; rfl, hn, tabE_snoc hTE (c, sq, cd, tb) (hn.2.2.1.2 _ (by simp)).1 (fun y hy => by have := hTI.2.2.2.1 y hy; show y.1 < c; omega)⟩
        have HS1 := Lib.hid (ruint_any gr bs 0 rest 100 wr HR.out)
        rw [g1] at HS1
        dsimp only at HS1
        have G2 := Lib.hid g2
        have G3 := Lib.hid g3
        have G4 := Lib.hid g4
        clear hTI hTE hF hu1 hu2 hu3 hu4 hrow g1 g2 g3 g4 hcodes HI1
        go_wp2_with fail
        refine HERR.out.mono ?_
        rintro e w3 ⟨rfl, rfl⟩
        go_wp2_with fail
        refine HS1.out.mono ?_
        rintro e w4 ⟨rfl, hr4, m4⟩
        have HT4 := Lib.hid (HT.out.modR8 HR.out m4)
        have HM4 := Lib.hid (HM.out.trans' (m4.weaken (S' := [gr, b]) (fun j hj => by simp at hj; simp [hj])))
        have HS2 := Lib.hid (ruint_any gr bs a1 r1 100 w4 hr4)
        rw [G2.out] at HS2
        dsimp only at HS2
        have HR4 := Lib.hid hr4
        clear hr4 m4 HS1 HERR
        go_wp2_with fail
        refine HS2.out.mono ?_
        rintro e w5 ⟨rfl, hr5, m5⟩
        have HT5 := Lib.hid (HT4.out.modR8 HR4.out m5)
        have HM5 := Lib.hid (HM4.out.trans' (m5.weaken (S' := [gr, b]) (fun j hj => by simp at hj; simp [hj])))
        have HS3 := Lib.hid (ruint_any gr bs a2 r2 100 w5 hr5)
        rw [G3.out] at HS3
        dsimp only at HS3
        have HR5 := Lib.hid hr5
        clear hr5 m5 HS2
        go_wp2_with fail
        refine HS3.out.mono ?_
        rintro e w6 ⟨rfl, hr6, m6⟩
        have HT6 := Lib.hid (HT5.out.modR8 HR5.out m6)
        have HM6 := Lib.hid (HM5.out.trans' (m6.weaken (S' := [gr, b]) (fun j hj => by simp at hj; simp [hj])))
        have HS4 := Lib.hid (rtext_any gr bs a3 r3 100 w6 hr6 (by omega) (by omega))
        rw [G4.out] at HS4
        dsimp only at HS4
        have HR6 := Lib.hid hr6
        clear hr6 m6 HS3
        go_wp2_with fail
        refine HS4.out.mono ?_
        rintro e w7 ⟨rfl, hr7, m7⟩
        have HT7 := Lib.hid (HT6.out.modR8 HR6.out m7)
        have HM7 := Lib.hid (HM6.out.trans' (m7.weaken (S' := [gr, b]) (fun j hj => by simp at hj; simp [hj])))
        have HR7 := Lib.hid hr7
        have HER := Lib.hid (err_any gr bs a4 r4 100 w7 hr7)
        clear hr7 m7 HS4 HR4 HR5 HR6 HT4 HT5 HT6 HM4 HM5 HM6 G2 G3 G4
        go_wp2_with fail
        refine HER.out.mono ?_
        rintro e w8 ⟨rfl, rfl⟩
        obtain ⟨gc, t1, t2, t3⟩ := HT7.out
        have c0 : w8.cell? ⟨gt, 0, none⟩ = some (.pointer (some ⟨gc, 0, none⟩)) := by rw [cell_of_block t1]; rfl
        have c1 : w8.cell? ⟨gc, 0, none⟩ = some (.map (some b)) := by rw [cell_of_block t2]; rfl
        have HTM := Lib.hid t3
        have hgtb : gt ≠ b := t3.cell_ne t1
        have hgcb : gc ≠ b := t3.cell_ne t2
        have hbbs : b ∉ bs := fun hk => by have := hbs b hk; omega
        have hgrb : gr ≠ b := hgb
        have hstr : strV tx = .string tb := by rw [← HTB.out]; first | done | rfl
        try rw [hstr]
        clear t3 HER
        by_cases h4 : a4 = 0
        · subst h4
          by_cases k1 : bf < c
          · have D1 : decide (c ≤ bf) = false := decide_eq_false (by omega)
            have D1' : decide ((c : Int) ≤ (bf : Int)) = false := decide_eq_false (by omega)
            by_cases k2 : c < 4294967296
            · have D2 : decide ((4294967296 : Int) ≤ (c : Int)) = false := decide_eq_false (by omega)
              by_cases k3 : sq < 4294967296
              · have D3 : decide ((4294967296 : Int) ≤ (sq : Int)) = false := decide_eq_false (by omega)
                by_cases k4 : cd ≤ 3
                · have D4 : decide ((3 : Int) < (cd : Int)) = false := decide_eq_false (by omega)
                  have ew1 : IntKind.u32.wrap (c : Int) = (c : Int) := IntWalk.u32_in _ (by omega)
                  have ew2 : IntKind.u32.wrap (sq : Int) = (sq : Int) := IntWalk.u32_in _ (by omega)
                  have ew3 : IntKind.u8.wrap (cd : Int) = (cd : Int) := IntWalk.u8_in _ (by omega)
                  obtain ⟨F', hF', hTI', hTE'⟩ := HNX.out rfl k1 k2 k3 k4
                  have HN2 : Hid (∃ F : List Cl, F.length = i + 1 ∧ TakeI l nn c F r4 ∧ TabE (fun z => if z = (c : Int) then some ((sq : Int), (cd : Int), tb) else f z) F) := Lib.hid ⟨F', hF', hTI', hTE'⟩
                  clear hF' hTI' hTE' F'
                  obtain ⟨nt', hnt'⟩ : ∃ q, (if (mapV f (.int .u32 ((c : Int)))).isSome then nt else nt + 1) = q := ⟨_, rfl⟩
                  have HNT := Lib.hid hnt'
                  clear hnt'
                  go_wp2_with (first | (at_mapUpdate; refine wpl_update (k := .int .u32 ((c : Int))) (v := entV ((sq : Int), (cd : Int), tb)) _ _ _ _ HTM.out Try.underlying48 Try.underlying23 rfl rfl rfl rfl (mapV (fun z => if z = ((c : Int)) then some ((sq : Int), (cd : Int), tb) else f z)) (mapV_at f ((c : Int)) ((sq : Int), (cd : Int), tb)) (fun k' hk' => mapV_set f ((c : Int)) ((sq : Int), (cd : Int), tb) k' hk') nt' HNT.out ?_) | fail)
                  intro w9 m9 HF9
                  have HTN : Hid (Tab w9 gt b nt' (fun z => if z = ((c : Int)) then some ((sq : Int), (cd : Int), tb) else f z)) := Lib.hid ⟨gc, m9.get t1 (by simp; exact hgtb), m9.get t2 (by simp; exact hgcb), HF9.out⟩
                  have HRN := Lib.hid (HR7.out.mod m9 (by simp; exact hgrb) (fun k hk hk2 => by simp at hk2; subst hk2; exact hbbs hk))
                  have HMN := Lib.hid (HM7.out.trans' (m9.weaken (S' := [gr, b]) (fun j hj => by simp at hj; simp [hj])))
                  clear m9 HF9
                  go_wp2
                  go_roundw
                  case rel => exact ⟨i + 1, c, nt', _, 0, r4, by go_num, rfl, HTN.out, HRN.out, Lib.hid (.inl rfl), HMN.out, by omega, by omega, Lib.hid (fun h => absurd rfl h), Lib.hid (fun _ => HN2.out)⟩
                  case measure => first | (simp [RowKit.intOf]; done) | (simp [RowKit.intOf]; omega)
                · have D4 : decide ((3 : Int) < (cd : Int)) = true := decide_eq_true (by omega)
                  have HBL := Lib.hid (HNO.out (fun h => by omega))
                  go_wp2
                  go_ret2
                  exact ⟨FINM.out _ HM7.out, .inl ⟨11, rfl, .inr rfl, HBL⟩⟩
              · have D3 : decide ((4294967296 : Int) ≤ (sq : Int)) = true := decide_eq_true (by omega)
                have HBL := Lib.hid (HNO.out (fun h => by omega))
                go_wp2
                go_ret2
                exact ⟨FINM.out _ HM7.out, .inl ⟨11, rfl, .inr rfl, HBL⟩⟩
            · have D2 : decide ((4294967296 : Int) ≤ (c : Int)) = true := decide_eq_true (by omega)
              have HBL := Lib.hid (HNO.out (fun h => by omega))
              go_wp2
              go_ret2
              exact ⟨FINM.out _ HM7.out, .inl ⟨11, rfl, .inr rfl, HBL⟩⟩
          · have D1 : decide (c ≤ bf) = true := decide_eq_true (by omega)
            have D1' : decide ((c : Int) ≤ (bf : Int)) = true := decide_eq_true (by omega)
            have HBL := Lib.hid (HNO.out (fun h => by omega))
            go_wp2
            go_ret2
            exact ⟨FINM.out _ HM7.out, .inl ⟨11, rfl, .inr rfl, HBL⟩⟩
        · have D4 : (a4 == 0) = false := by rw [beq_eq_false_iff_ne]; exact h4
          have HBL := Lib.hid (HNO.out (fun h => h4 h.1))
          obtain ⟨nt', hnt'⟩ : ∃ q, (if (mapV f (.int .u32 (IntKind.u32.wrap (c : Int)))).isSome then nt else nt + 1) = q := ⟨_, rfl⟩
          have HNT := Lib.hid hnt'
          clear hnt'
          go_wp2_with (first | (at_mapUpdate; refine wpl_update (k := .int .u32 (IntKind.u32.wrap (c : Int))) (v := entV (IntKind.u32.wrap (sq : Int), IntKind.u8.wrap (cd : Int), tb)) _ _ _ _ HTM.out Try.underlying48 Try.underlying23 rfl rfl rfl rfl (mapV (fun z => if z = (IntKind.u32.wrap (c : Int)) then some (IntKind.u32.wrap (sq : Int), IntKind.u8.wrap (cd : Int), tb) else f z)) (mapV_at f (IntKind.u32.wrap (c : Int)) (IntKind.u32.wrap (sq : Int), IntKind.u8.wrap (cd : Int), tb)) (fun k' hk' => mapV_set f (IntKind.u32.wrap (c : Int)) (IntKind.u32.wrap (sq : Int), IntKind.u8.wrap (cd : Int), tb) k' hk') nt' HNT.out ?_) | fail)
          intro w9 m9 HF9
          have HTN : Hid (Tab w9 gt b nt' (fun z => if z = (IntKind.u32.wrap (c : Int)) then some (IntKind.u32.wrap (sq : Int), IntKind.u8.wrap (cd : Int), tb) else f z)) := Lib.hid ⟨gc, m9.get t1 (by simp; exact hgtb), m9.get t2 (by simp; exact hgcb), HF9.out⟩
          have HRN := Lib.hid (HR7.out.mod m9 (by simp; exact hgrb) (fun k hk hk2 => by simp at hk2; subst hk2; exact hbbs hk))
          have HMN := Lib.hid (HM7.out.trans' (m9.weaken (S' := [gr, b]) (fun j hj => by simp at hj; simp [hj])))
          clear m9 HF9
          go_wp2
          go_roundw
          case rel => exact ⟨i + 1, c, nt', _, a4, r4, by go_num, rfl, HTN.out, HRN.out, HCO, HMN.out, by omega, by omega, Lib.hid (fun _ => HBL.out), Lib.hid (fun h => absurd h h4)⟩
          case measure => first | (simp [RowKit.intOf]; done) | (simp [RowKit.intOf]; omega)
      · have DE : (ec == 0) = false := by rw [beq_eq_false_iff_ne]; exact hec
        have HERR := Lib.hid (err_any gr bs ec rest 100 wr HR.out)
        go_wp2_with fail
        refine HERR.out.mono ?_
        rintro e w3 ⟨rfl, rfl⟩
        have DEN : (ec != 0) = true := by simp [bne, DE]
        go_wp2_with fail
        refine HERR.out.mono ?_
        rintro e w4 ⟨rfl, rfl⟩
        go_wp2
        go_ret2
        exact ⟨FINM.out _ HM.out, .inl ⟨ec, rfl, by rcases HEC.out with h | h | h; exact absurd h hec; exact .inl h; exact .inr h, Lib.hid (HB1.out hec)⟩⟩
    · have DI : decide (i < nn) = false := decide_eq_false hlt
      have DI2 : decide ((i : Int) < (nn : Int)) = false := decide_eq_false (by omega)
      have hinn : i = nn := by omega
      have HERR := Lib.hid (err_any gr bs ec rest 100 wr HR.out)
      by_cases hec : ec = 0
      · subst hec
        obtain ⟨F, hF, hTI, hTE⟩ := HI1.out rfl
        have hlF : l = tabB F ++ rest := by
          have := hTI.1
          unfold tabB
          rw [hF, hinn]
          exact this
        have HFF := Lib.hid (⟨hTE, hTI.2.2.1, hlF⟩ : TabE f F ∧ GoodE F ∧ l = tabB F ++ rest)
        clear hTE hTI hlF hF
        go_wp2_with fail
        refine HERR.out.mono ?_
        rintro e w3 ⟨rfl, rfl⟩
        go_wp2
        go_ret2
        exact ⟨FINM.out _ HM.out, .inr ⟨gt, b, nt, f, F, rest, rfl, HT.out, HFF.out.1, HFF.out.2.1, HFF.out.2.2, HR.out, hb⟩⟩
      · have DE : (ec == 0) = false := by rw [beq_eq_false_iff_ne]; exact hec
        have DEN : (ec != 0) = true := by simp [bne, DE]
        go_wp2_with fail
        refine HERR.out.mono ?_
        rintro e w3 ⟨rfl, rfl⟩
        go_wp2
        go_ret2
        exact ⟨FINM.out _ HM.out, .inl ⟨ec, rfl, by rcases HEC.out with h | h | h; exact absurd h hec; exact .inl h; exact .inr h, Lib.hid (HB1.out hec)⟩⟩
end Go.Proofs.Ytgneigdcgfiooaa
/- The walks of maps.Copy and maps.Equal at a table's map. -/
namespace Go.Proofs.Ytgneigdcgfiooaa
open Go Go.RowKit Go.Lib Go.MapKept

theorem mapV_got {f : Int → Option Ent} {k v : Value} (h : mapV f k = some v) : ∃ z q cd t, k = .int .u32 z ∧ f z = some (q, cd, t) ∧ v = .agg #[.int .u32 q, .int .u8 cd, .string t] := by
  obtain ⟨z, rfl, hz⟩ := mapV_some (f := f) (k := k) (by rw [h]; rfl)
  obtain ⟨⟨q, cd, t⟩, hx⟩ := Option.isSome_iff_exists.1 hz
  refine ⟨z, q, cd, t, rfl, hx, ?_⟩
  have : (f z).map entV = some v := h
  rw [hx] at this
  exact (Option.some.inj this).symm
theorem MapF.same_n {w w' : World} {b b' n n' : Nat} {d : TypeDesc} {f : Value → Option Value} (h : MapF w b d n f) (h' : MapF w' b' d n' f) : n = n' := by
  obtain ⟨es, clock, e1, e2, e3, e4, e5⟩ := h
  have := h'.count (ks := es.toList.map (·.key)) e3.2.2 (fun k => by
    rw [List.mem_map]
    constructor
    · rintro ⟨x, hx, rfl⟩
      rw [(e5 x.key x.val).2 ⟨x, hx, rfl, rfl⟩]
      rfl
    · intro hk
      obtain ⟨v, hv⟩ := Option.isSome_iff_exists.1 hk
      obtain ⟨x, hx, hx1, _⟩ := (e5 k v).1 hv
      exact ⟨x, hx, hx1⟩)
  rw [← this, List.length_map, Array.length_toList, e2]
set_option maxRecDepth 100000 in
set_option maxHeartbeats 1000000 in
theorem mcopy_any (bd bs n : Nat) (f : Int → Option Ent) (w : World) (hne : bd ≠ bs) (hd : MapF w bd (.int .u32) 0 (mapV fun _ => none)) (hs : MapF w bs (.int .u32) n (mapV f)) :
    Calls Try.prog 26 #[.map (some bd), .map (some bs)] w fun e w' =>
      (∃ v, e = .returned v) ∧ MapF w' bd (.int .u32) n (mapV f) ∧ Mod [bd] w w' := by
  have HD := Lib.hid hd
  have HS := Lib.hid hs
  clear hd hs
  go_enter Try.func26, Try.ntmps26
  go_wp2_with (first | (at_range; refine wpl_range (dst := some 7) _ _ HS.out Try.underlying48 rfl ?_; intro r w0 hrg m0 hr0) | fail)
  have HR0 := Lib.hid hrg.out
  have HD0 := Lib.hid (HD.out.mod0 m0)
  have HM0 := Lib.hid (m0.nil (S := [bd]))
  have HLT := Lib.hid hr0
  clear hrg m0 hr0
  try simp only [Act.put, List.setIfInBounds_toArray, List.set_cons_succ, List.set_cons_zero]
  go_loopw [4] (fun _ wr => ∃ (ks : List Value) (cnt : Nat) (g : Int → Option Ent), RangeF wr bs r (.int .u32) n (mapV f) ks cnt ∧ MapF wr bd (.int .u32) ks.length (mapV g) ∧ Mod [bd] w wr ∧ (∀ z, (Value.int .u32 z ∈ ks → g z = f z) ∧ (Value.int .u32 z ∉ ks → g z = none))) (fun _ wr => wr.rangeLeft bs r)
  case atStart => exact ⟨[], n, fun _ => none, HR0.out, HD0.out, HM0.out, fun z => ⟨fun h => absurd h List.not_mem_nil, fun _ => rfl⟩⟩
  case round =>
    obtain ⟨ks, cnt, g, hrg, hmd, hm, hg⟩ := hrel
    have HR := Lib.hid hrg
    have HMD := Lib.hid hmd
    have HM := Lib.hid hm
    have HG := Lib.hid hg
    clear hrg hmd hm hg HR0 HD0 HM0
    go_wp2_with (first | (at_next; refine wpl_next (dst := some 8) _ HR.out rfl ?_ ?_) | fail)
    · intro hd
      go_wp2
      go_end0
      have hgf : g = f := by
        funext z
        by_cases hz : Value.int .u32 z ∈ ks
        · exact (HG.out z).1 hz
        · rw [(HG.out z).2 hz]
          cases hfz : f z with
          | none => rfl
          | some x => exact absurd (hd.out (.int .u32 z) (by show ((f z).map entV).isSome = true; rw [hfz]; rfl)) hz
      have hkn : ks.length = n := HR.out.map.count HR.out.nodup.1 (fun k => ⟨HR.out.nodup.2 k, hd.out k⟩)
      refine ⟨⟨_, rfl⟩, ?_, HM.out⟩
      have := HMD.out
      rw [hgf, hkn] at this
      exact this
    · intro k v w2 cnt2 hk hrg2 hlt m2 hen
      obtain ⟨hk1, hk2, hk3⟩ := hk.out
      obtain ⟨z, q, cd, t, rfl, hz, rfl⟩ := mapV_got hk2
      have HRG2 := Lib.hid hrg2.out
      have HCL : Hid (cnt2 < cnt) := Lib.hid hlt
      have hbr : bd ≠ r := by
        have := HLT.out
        have := HD.out.lt
        omega
      have HMD2 := Lib.hid (HMD.out.mod m2 (by simpa using hbr))
      have HM2 := Lib.hid (HM.out.trans m2 (fun i hi hl => by simp at hi; have := HLT.out; omega))
      have HN : Hid ((if (mapV g (.int .u32 z)).isSome then ks.length else ks.length + 1) = ks.length + 1) := Lib.hid (by
        have : mapV g (.int .u32 z) = none := by
          show (g z).map entV = none
          rw [(HG.out z).2 hk1]
          rfl
        rw [this]
        rfl)
      have HG2 : Hid (∀ y, (Value.int .u32 y ∈ ks ++ [Value.int .u32 z] → (fun x => if x = z then some (q, cd, t) else g x) y = f y) ∧ (Value.int .u32 y ∉ ks ++ [Value.int .u32 z] → (fun x => if x = z then some (q, cd, t) else g x) y = none)) := Lib.hid fun y => by
        constructor
        · intro hy
          dsimp only
          by_cases hyz : y = z
          · rw [if_pos hyz, hyz, hz]
          · rw [if_neg hyz]
            rw [List.mem_append, List.mem_singleton] at hy
            rcases hy with hy | hy
            · exact (HG.out y).1 hy
            · exact absurd (Value.int.inj hy).2 hyz
        · intro hy
          dsimp only
          rw [List.mem_append, List.mem_singleton, not_or] at hy
          rw [if_neg (fun e => hy.2 (by rw [e]))]
          exact (HG.out y).2 hy.1
      have HLK : Hid ((ks ++ [Value.int .u32 z]).length = ks.length + 1) := Lib.hid (by simp)
      clear hk hk1 hk2 hk3 hz hrg2 hlt m2
      go_wp2_with (first | (at_mapUpdate; refine wpl_update (k := .int .u32 z) (v := entV (q, cd, t)) _ _ _ _ (HMD2.out.mod0 (Mod.alloc _ _ _)) Try.underlying48 Try.underlying23 rfl rfl rfl rfl (mapV (fun x => if x = z then some (q, cd, t) else g x)) (mapV_at g z (q, cd, t)) (fun k' hk' => mapV_set g z (q, cd, t) k' hk') (ks.length + 1) HN.out ?_) | fail)
      intro w7 m7 H7
      have ma := Mod.alloc [bd] w2 (.cells #[.int .u32 q, .int .u8 cd, .string t] 54)
      have HM7 := Lib.hid ((HM2.out.trans' ma).trans' m7)
      have HR7 := Lib.hid ((HRG2.out.mod ma (by simp; exact Ne.symm hne) (by simp; exact Ne.symm hbr)).mod m7 (by simp; exact Ne.symm hne) (by simp; exact Ne.symm hbr))
      clear m7 ma hen
      go_wp2
      go_roundw
      case rel => exact ⟨ks ++ [.int .u32 z], cnt2, _, HR7.out, by rw [HLK.out]; exact H7.out, HM7.out, HG2.out⟩
      case measure => rw [HR7.out.left_eq, HR.out.left_eq]; exact HCL.out
end Go.Proofs.Ytgneigdcgfiooaa
/- The walk of maps.Equal at two tables' maps. -/
namespace Go.Proofs.Ytgneigdcgfiooaa
open Go Go.RowKit Go.Lib Go.MapKept

def EqTR (w : World) (n1 n2 : Nat) (f1 f2 : Int → Option Ent) (e : Ending) (w' : World) : Prop :=
  ∃ v, e = .returned (.bool v) ∧ Mod [] w w' ∧ (f1 = f2 → v = true) ∧ ((n1 ≠ n2 ∨ ∃ c, (f1 c).isSome = true ∧ f2 c ≠ f1 c) → v = false)
theorem mapV_none {f : Int → Option Ent} {z : Int} (h : f z = none) : mapV f (.int .u32 z) = none := by
  show (f z).map entV = none
  rw [h]; rfl
theorem mapV_is {f : Int → Option Ent} {z q cd : Int} {t : ByteArray} (h : f z = some (q, cd, t)) : mapV f (.int .u32 z) = some (.agg #[.int .u32 q, .int .u8 cd, .string t]) := by
  show (f z).map entV = _
  rw [h]; rfl
set_option maxRecDepth 100000 in
set_option maxHeartbeats 2000000 in
theorem mequal_any (b1 b2 n1 n2 : Nat) (f1 f2 : Int → Option Ent) (w : World) (h1 : MapF w b1 (.int .u32) n1 (mapV f1)) (h2 : MapF w b2 (.int .u32) n2 (mapV f2)) :
    Calls Try.prog 27 #[.map (some b1), .map (some b2)] w (EqTR w n1 n2 f1 f2) := by
  have H1 := Lib.hid h1
  have H2 := Lib.hid h2
  have HEN : Hid (f1 = f2 → n1 = n2) := Lib.hid fun e => by subst e; exact h1.same_n h2
  clear h1 h2
  unfold EqTR
  go_enter Try.func27, Try.ntmps27
  by_cases hn : n1 = n2
  · subst hn
    have DN : ((n1 : Int) != (n1 : Int)) = false := by simp
    go_wp2_with (first | (at_len; refine wpl_lenmap (dst := some 10) _ _ H1.out Try.underlying48 rfl ?_) | (at_len; refine wpl_lenmap (dst := some 12) _ _ H2.out Try.underlying48 rfl ?_) | (at_range; refine wpl_range (dst := some 15) _ _ H1.out Try.underlying48 rfl ?_; intro r w0 hrg m0 hr0) | fail)
    have HR0 := Lib.hid hrg.out
    have HM0 := Lib.hid m0
    have HLT := Lib.hid hr0
    clear hrg m0 hr0
    try simp only [Act.put, List.setIfInBounds_toArray, List.set_cons_succ, List.set_cons_zero]
    go_loopw [5, 6, 7, 8] (fun _ _ _ _ wr => ∃ (ks : List Value) (cnt : Nat), RangeF wr b1 r (.int .u32) n1 (mapV f1) ks cnt ∧ Mod [] w wr ∧ (∀ z, Value.int .u32 z ∈ ks → f2 z = f1 z)) (fun _ _ _ _ wr => wr.rangeLeft b1 r)
    case atStart => exact ⟨[], n1, HR0.out, HM0.out, fun z h => absurd h List.not_mem_nil⟩
    case round =>
      obtain ⟨ks, cnt, hrg, hm, hg⟩ := hrel
      have HR := Lib.hid hrg
      have HM := Lib.hid hm
      have HG := Lib.hid hg
      clear hrg hm hg HR0 HM0
      go_wp2_with (first | (at_next; refine wpl_next (dst := some 16) _ HR.out rfl ?_ ?_) | fail)
      · intro hd
        go_wp2
        go_ret
        refine ⟨true, rfl, HM.out, fun _ => rfl, ?_⟩
        rintro (h | ⟨c, hc, hc2⟩)
        · exact absurd rfl h
        · refine absurd (HG.out c (hd.out _ ?_)) hc2
          show ((f1 c).map entV).isSome = true
          rw [Option.isSome_map]
          exact hc
      · intro k v w2 cnt2 hk hrg2 hlt m2 hen
        obtain ⟨hk1, hk2, hk3⟩ := hk.out
        obtain ⟨z, q, cd, t, rfl, hz, rfl⟩ := mapV_got hk2
        have HRG2 := Lib.hid hrg2.out
        have HCL : Hid (cnt2 < cnt) := Lib.hid hlt
        have HM2 := Lib.hid (HM.out.trans m2 (fun i hi hl => by simp at hi; have := HLT.out; omega))
        have HZ := Lib.hid hz
        have H22 := Lib.hid (H2.out.mod0 HM2.out)
        clear hk hk1 hk2 hk3 hz hrg2 hlt m2
        have H23 := Lib.hid (H22.out.mod0 (Mod.alloc [] w2 (.cells #[.int .u32 q, .int .u8 cd, .string t] 54)))
        cases hf2 : f2 z with
        | none =>
          have HV := Lib.hid (mapV_none hf2)
          have HF2 := Lib.hid hf2
          clear hf2
          go_wp2_with (first | (at_lookup; refine wpl_lookup_none (dst := some 24) _ _ _ H23.out Try.underlying48 Try.underlying23 rfl rfl rfl (zeroLast _) HV.out ?_) | fail)
          go_ret
          refine ⟨false, rfl, HM2.out.trans' (.ofBelow (by go_grown)), ?_, fun _ => rfl⟩
          intro e
          have h1 := HZ.out
          rw [e, HF2.out] at h1
          cases h1
        | some x =>
          obtain ⟨q2, cd2, t2⟩ := x
          have HV := Lib.hid (mapV_is hf2)
          have HF2 := Lib.hid hf2
          clear hf2
          by_cases hq : q = q2 ∧ cd = cd2 ∧ t = t2
          · obtain ⟨rfl, rfl, rfl⟩ := hq
            go_wp2_with (first | (at_lookup; refine wpl_lookup_some (dst := some 24) _ _ _ H23.out Try.underlying48 Try.underlying23 rfl rfl rfl (zeroLast _) HV.out ?_) | fail)
            have ma := Mod.alloc [] w2 (.cells #[.int .u32 q, .int .u8 cd, .string t] 54)
            have mb := ma.trans' (Mod.alloc [] (w2.alloc (.cells #[.int .u32 q, .int .u8 cd, .string t] 54)) (.cells #[.int .u32 q, .int .u8 cd, .string t] 54))
            have HR7 := Lib.hid (HRG2.out.mod mb (by simp) (by simp))
            have HM7 := Lib.hid (HM2.out.trans' mb)
            have HG2 : Hid (∀ y, Value.int .u32 y ∈ ks ++ [Value.int .u32 z] → f2 y = f1 y) := Lib.hid fun y hy => by
              rw [List.mem_append, List.mem_singleton] at hy
              rcases hy with hy | hy
              · exact HG.out y hy
              · have := (Value.int.inj hy).2
                subst this
                rw [HF2.out, HZ.out]
            clear ma mb hen
            go_wp2
            go_roundw
            case rel => exact ⟨ks ++ [.int .u32 z], cnt2, HR7.out, HM7.out, HG2.out⟩
            case measure => rw [HR7.out.left_eq, HR.out.left_eq]; exact HCL.out
          · skip
            have HNE : Hid (f1 = f2 → False) := Lib.hid fun e => by
              have h1 := HZ.out
              rw [e, HF2.out] at h1
              cases h1
              exact hq ⟨rfl, rfl, rfl⟩
            by_cases hq1 : q = q2
            · subst hq1
              by_cases hq2 : cd = cd2
              · subst hq2
                have hq3 : ¬ t.toList = t2.toList := fun h => hq ⟨rfl, rfl, ByteArray.ext (Array.toList_inj.1 (by rw [← ByteArray.toList_eq, ← ByteArray.toList_eq]; exact h))⟩
                clear hq
                go_wp2_with (first | (at_lookup; refine wpl_lookup_some (dst := some 24) _ _ _ H23.out Try.underlying48 Try.underlying23 rfl rfl rfl (zeroLast _) HV.out ?_) | fail)
                go_ret
                exact ⟨false, rfl, HM2.out.trans' (.ofBelow (by go_grown)), fun e => (HNE.out e).elim, fun _ => rfl⟩
              · have hq3 : (cd == cd2) = false := by simpa using hq2
                clear hq
                go_wp2_with (first | (at_lookup; refine wpl_lookup_some (dst := some 24) _ _ _ H23.out Try.underlying48 Try.underlying23 rfl rfl rfl (zeroLast _) HV.out ?_) | fail)
                go_ret
                exact ⟨false, rfl, HM2.out.trans' (.ofBelow (by go_grown)), fun e => (HNE.out e).elim, fun _ => rfl⟩
            · have hq3 : (q == q2) = false := by simpa using hq1
              clear hq
              go_wp2_with (first | (at_lookup; refine wpl_lookup_some (dst := some 24) _ _ _ H23.out Try.underlying48 Try.underlying23 rfl rfl rfl (zeroLast _) HV.out ?_) | fail)
              go_ret
              exact ⟨false, rfl, HM2.out.trans' (.ofBelow (by go_grown)), fun e => (HNE.out e).elim, fun _ => rfl⟩
  · have DN : ((n1 : Int) != (n2 : Int)) = true := by simpa using (fun e => hn (by omega))
    go_wp2_with (first | (at_len; refine wpl_lenmap (dst := some 10) _ _ H1.out Try.underlying48 rfl ?_) | (at_len; refine wpl_lenmap (dst := some 12) _ _ H2.out Try.underlying48 rfl ?_) | fail)
    go_ret
    exact ⟨false, rfl, Mod.refl _ _, fun e => absurd (HEN.out e) hn, fun _ => rfl⟩
end Go.Proofs.Ytgneigdcgfiooaa
/- The walk of a table's Put. -/
namespace Go.Proofs.Ytgneigdcgfiooaa
open Go Go.RowKit Go.Shelf Go.MapKept
attribute [local go_sem] Oper.semAt_some

def PutTR (w : World) (l : List UInt8) (e : Ending) (w' : World) : Prop := ∃ ao m cap, e = .returned (.slice ao m cap) ∧ l.length = m ∧ OwnB w' ao cap l ∧ (∀ k, k ∈ blk ao → w.heap.size ≤ k) ∧ Mod [] w w'
theorem wplIn_appV {F : Fence} {nF : Nat} {w : World} {ops : Array Oper} {rest : List Oper} {a : Act} {Q : Exit → Act → World → Prop} {dst : Option Tmp} {ty : TypeId} {pos : String} {after : Array Edge} (s x : Operand)
    (ao : Option Addr) (n cap : Nat) (xs : List Value) (hs : a.eval s = .slice ao n cap) (hown : Own w 23 1 ao n cap xs)
    (so : Option Addr) (m c : Nat) (l : List Value) (hx : a.eval x = .slice so m c) (hl : l.length = m) (hsees : Shows w so l) (h1 : ∀ u ∈ l, u.oneCell' = true) (hb : n + m ≤ 1000000)
    (h : ∀ ao' cap' w', Own w' 23 1 ao' (n + m) cap' (xs ++ l) → Mod (blk ao) w w' → SameOrNew w w' ao ao' → wpListIn F nF Try.prog ops Q rest (a.put dst (.slice ao' (n + m) cap')) w') :
    wpListIn F nF Try.prog ops Q (⟨dst, .call { callee := .builtin .append, args := #[s, x], argTypes := #[65, 65] }, ty, pos, after, none⟩ :: rest) a w := by
  have infoU : (Try.prog.info? 23).map (fun i => (i.zero, i.size, i.bytes)) = some (some (.int .u32 0), 1, 4) := by kernel_rfl
  obtain ⟨i0, hi, hz0, hz1, hz2⟩ := info_parts infoU
  subst hl
  obtain ⟨ao', cap', w', hr, h2, h3, h4⟩ := run_append_mine (P := Try.prog) w 65 ty 23 i0 _ 1 4 Try.underlying65 hi hz0 hz1 hz2 rfl (by decide) ao n cap _ hown so l.length c l (by simp) hsees h1 (by unfold maxLen; omega) (by omega)
  refine wpListIn_plain rfl fun K hK' => ?_
  unfold Oper.wpIn
  refine ⟨?_, ?_⟩
  · simp [Oper.about, resolve, Target.leads, Sem.run_pure]
  · rw [Oper.semAt_plain F _ _ (by intro c hc'; cases hc')]
    simp [execOp, resolve, invoke, builtin, hs, hx, hr, Result.andThen]
    exact hK' _ _ (h ao' cap' w' h2 h3 h4)
/-- What the loop over the keys keeps: the box bb, the keys so far. -/
def KeyInv (F : Value → Option Value) (w : World) (bb : Nat) (bad : List Nat) (pre : List Value) (W : World) : Prop :=
  (pre.Nodup ∧ ∀ k ∈ pre, (F k).isSome = true) ∧ ∃ ao cap, W.heap[bb]? = some (.cells #[.slice ao pre.length cap] 65 (0, 0)) ∧ Own W 23 1 ao pre.length cap pre ∧ Mod [bb] w W ∧ (∀ k, k ∈ blk ao → w.heap.size ≤ k ∧ k ≠ bb ∧ k ∉ bad)
theorem KeyInv.mod {F : Value → Option Value} {w : World} {bb : Nat} {bad S : List Nat} {pre : List Value} {A B : World} (h : KeyInv F w bb bad pre A) (hm : Mod S A B) (hS : ∀ k, k ∈ S → k ∈ bad) (hbb : bb ∉ bad) (hnew : ∀ k, k ∈ bad → w.heap.size ≤ k) : KeyInv F w bb bad pre B := by
  obtain ⟨h0, ao, cap, h1, h2, h3, h4⟩ := h
  exact ⟨h0, ao, cap, hm.get h1 (fun h => hbb (hS _ h)), h2.mod hm (fun k hk hs => (h4 k hk).2.2 (hS k hs)), h3.trans hm (fun i hi hl => by have := hnew i (hS i hi); omega), h4⟩
/-- Where a statement ends in no other way than its end. -/
def onlyN (Q : Exit → Act → World → Prop) : Exit → Act → World → Prop
  | .normal, a, w => Q .normal a w
  | _, _, _ => False
theorem wp_onlyN {P : Program} {c : Code} {Q : Exit → Act → World → Prop} {a : Act} {w : World} (h : c.wp P (onlyN Q) a w) : c.wp P Q a w := by
  refine wp_mono h ?_
  intro e a' w' h'
  cases e <;> first | exact h' | exact h'.elim
theorem wpl_lookupF {P : Program} {w : World} {ops : Array Oper} {rest : List Oper} {a : Act} {Q : Exit → Act → World → Prop} {dst : Option Tmp} {ty : TypeId} {pos : String} {after : Array Edge} (t : TypeId) (x ix : Operand)
    {b n : Nat} {d : TypeDesc} {f : Value → Option Value} {kt et : TypeId} {k v : Value} (h : MapF w b d n f) (ht : P.underlying t = some (.map kt et)) (hd : P.underlying kt = some d) (hx : a.eval x = .map (some b)) (hi : a.eval ix = k) (hk : IsKey d k) (hv : f k = some v)
    (hr : wpList P ops Q rest (a.put dst v) w) :
    wpList P ops Q (⟨dst, .lookup t x ix false, ty, pos, after, none⟩ :: rest) a w := by
  have h1 : (Instr.lookup t (.map (some b)) k false).run P w = .ok v w := by
    obtain ⟨es, clock, h1, h2, h3, h4, h5⟩ := h
    rcases findNow_spec hk es.toList 0 h4 with ⟨g1, g2⟩ | ⟨j, e, g1, g2, g3⟩
    · obtain ⟨e, he, hk2, _⟩ := (h5 k v).1 hv
      exact absurd hk2 (g2 e he)
    · have hf : f k = some e.val := (h5 k e.val).2 ⟨e, List.mem_of_getElem? g2, g3, rfl⟩
      rw [hf] at hv
      cases hv
      simp [Instr.lookup, run_underlying ht, MapKept.run_getObj_map h1, run_checkKey hd hk, run_findKey hd g1, Result.andThen]
  refine wpList_plain rfl fun K hK => ?_
  unfold Oper.wp
  simp [execOp, hx, hi, h1, Result.andThen]
  exact hK _ _ hr
theorem flat_len {E : List Cl} (h : ∀ x ∈ E, ClOk x) : (E.flatMap clB).length ≤ E.length * 1000044 := by
  induction E with
  | nil => simp
  | cons x r ih =>
    have h1 := h x (List.mem_cons_self ..)
    have h2 := ih (fun y hy => h y (List.mem_cons_of_mem _ hy))
    have e1 := (enc7_length x.1).2
    have e2 := (enc7_length x.2.1).2
    have e3 := (enc7_length x.2.2.1).2
    have e4 := (enc7_length x.2.2.2.size).2
    have e5 : (clB x).length = (enc7 x.1).length + (enc7 x.2.1).length + (enc7 x.2.2.1).length + ((enc7 x.2.2.2.size).length + x.2.2.2.size) := by
      unfold clB
      simp only [List.length_append]
      rw [size_data]
    rw [List.flatMap_cons, List.length_append, List.length_cons, e5]
    have := h1.2.2.2
    omega
open Classical in
theorem TabE.bound {f : Int → Option Ent} {E : List Cl} (h : TabE f E) {ks : List Value} (h1 : ks.Nodup) (h2 : ∀ k ∈ ks, (mapV f k).isSome = true) : ks.length ≤ E.length := by
  have hp : ((E.map fun x => u32V x.1).filter fun k => decide (k ∈ ks)).Perm ks := by
    rw [List.perm_ext_iff_of_nodup (h.nodup.filter _) h1]
    intro k
    rw [List.mem_filter, h.mem]
    simp only [decide_eq_true_eq]
    exact ⟨fun h => h.2, fun hk => ⟨h2 k hk, hk⟩⟩
  rw [← hp.length_eq]
  refine Nat.le_trans (List.length_filter_le _ _) ?_
  rw [List.length_map]
  exact Nat.le_refl _
set_option maxRecDepth 100000 in
set_option maxHeartbeats 4000000 in
theorem tput_any (g b n : Nat) (f : Int → Option Ent) (E : List Cl) (w : World) (h : Tab w g b n f) (hE : TabE f E) (hlen : E.length ≤ 100000) :
    Calls Try.prog 14 #[.pointer (some ⟨g, 0, none⟩), .slice none 0 0] w (PutTR w (tabB E)) := by
  refine (callsIn_wide (n := 3)).1 ?_
  have HT := Lib.hid h
  have HE := Lib.hid hE
  obtain ⟨gc, t1, t2, t3⟩ := h
  have hnE : n = E.length := by rw [← t3.count hE.nodup hE.mem, List.length_map]
  have HNE := Lib.hid hnE
  have HT3 := Lib.hid t3
  have hn5 : n ≤ 100000 := by omega
  unfold PutTR
  clear t3 hE hnE
  refine callsIn_of_wp_marks Try.func14 rfl trivial ?_ rfl
  simp only [Try.ntmps14, List.size_toArray, List.length_cons, List.length_nil, Nat.reduceAdd, Nat.reduceSub, Array.replicate_succ, Array.replicate_zero, List.push_toArray, List.append_toArray, List.nil_append, List.cons_append]
  refine wpIn_wide.2 ?_
  go_wp2_with fail
  refine (tlen_any g b n f w HT.out).mono ?_
  rintro e w1 ⟨rfl, rfl⟩
  have HU := Lib.hid (vuint_any none 0 0 n [] w1 rfl (Own.nil0 _ _ _) (by omega) (by omega))
  unfold RetApp at HU
  go_wp2_with fail
  refine HU.out.mono ?_
  rintro e w2 ⟨ob, m2, oc, rfl, hm2, ho2, hmd2, hsn2⟩
  have HM2 : Hid (Mod [] w1 w2) := Lib.hid hmd2
  have HO2 : Hid (OwnB w2 ob oc (enc7 n)) := Lib.hid ho2
  have HL2 : Hid ((enc7 n).length = m2) := Lib.hid hm2
  have HB2 : Hid (∀ k, k ∈ blk ob → w1.heap.size ≤ k) := Lib.hid fun k hk => by
    rcases hsn2.blk k hk with h | h
    · simp [blk] at h
    · exact h
  have HT2 := Lib.hid (HT.out.mod0 hmd2)
  clear hm2 ho2 hmd2 hsn2 HU
  go_wp2_with fail
  refine (tlen_any g b n f w2 HT2.out).mono ?_
  rintro e w3 ⟨rfl, rfl⟩
  by_cases hn0 : n = 0
  · subst hn0
    have hE0 : E = [] := List.eq_nil_of_length_eq_zero HNE.out.symm
    subst hE0
    go_wp2
    refine ⟨_, results_tmp rfl _ _ _, ?_⟩
    refine ⟨ob, m2, oc, rfl, ?_, ?_, HB2.out, HM2.out⟩
    · rw [← HL2.out]; simp [tabB]
    · have := HO2.out; simpa [tabB] using this
  · have hz : ((n : Int) == 0) = false := by rw [beq_eq_false_iff_ne]; omega
    have c0 : w3.cell? ⟨g, 0, none⟩ = some (.pointer (some ⟨gc, 0, none⟩)) := by rw [cell_of_block (HM2.out.get t1 List.not_mem_nil)]; rfl
    have c1 : w3.cell? ⟨gc, 0, none⟩ = some (.map (some b)) := by rw [cell_of_block (HM2.out.get t2 List.not_mem_nil)]; rfl
    obtain ⟨w4, hw4, hh4⟩ : ∃ w4, w3.alloc (.cells #[.slice none 0 0] 65) = w4 ∧ w4.heap[w3.heap.size]? = some (.cells #[.slice none 0 0] 65 (0, 0)) := ⟨_, rfl, heap_alloc_new _ _⟩
    have m4 : Mod [] w3 w4 := hw4 ▸ Mod.alloc _ _ _
    have z4 : w4.heap.size = w3.heap.size + 1 := by rw [← hw4]; simp
    obtain ⟨bb, hbb⟩ : ∃ q, w3.heap.size = q := ⟨_, rfl⟩
    rw [hbb] at hh4
    have HBB := Lib.hid hbb
    have HH4 := Lib.hid hh4
    have HM4 := Lib.hid (HM2.out.trans' m4)
    have HT4 := Lib.hid (HT2.out.mod0 m4)
    replace c0 := m4.cell c0 List.not_mem_nil
    replace c1 := m4.cell c1 List.not_mem_nil
    have HO4 := Lib.hid (HO2.out.mod0 m4)
    have HLT4 : Hid (∀ k, k ∈ blk ob → k < bb) := Lib.hid fun k hk => by have := Own.lt HO2.out k hk; omega
    clear m4 hh4
    go_wp2_with fail
    refine (keys_any b w4).mono ?_
    rintro e w5 ⟨nb, rfl, hnb, m5⟩
    have HM5 := Lib.hid (HM4.out.trans' m5)
    have HT5 := Lib.hid (HT4.out.mod0 m5)
    have HH5 := Lib.hid (m5.get HH4.out List.not_mem_nil)
    have HO5 := Lib.hid (HO4.out.mod0 m5)
    have HNB := Lib.hid hnb
    have z5 : bb < w5.heap.size := by have := m5.size; omega
    clear m5 hnb HT4 HH4 HO4 HO2 HT2 HT
    go_wp2
    refine (wpIn_wide (n := 3)).1 ?_
    have hMap : MapF w5 b (.int .u32) n (mapV f) := by
      obtain ⟨_, _, _, h3⟩ := HT5.out
      exact h3
    have hblt := hMap.lt
    refine wpIn_rangeFunc_keys (n := 3) rfl (by omega) (gf := 31) (lb := #[.pointer (some ⟨nb, 0, none⟩)]) rfl trivial (enters_of Try.func31 (by kernel_rfl) rfl)
      (keys1_hands Fence.wide 2 trivial rfl (by omega) nb b n (mapV f) w5 HNB.out hMap) hblt
      (KeyInv (mapV f) w5 bb [w5.heap.size, w5.heap.size + 1, w5.heap.size + 2])
      (fun pre A B S hS hI hm => hI.mod hm (fun k hk => by simpa using hS k hk) (by first | (simp; done) | (simp; omega)) (by first | (simp; done) | (simp; omega)))
      (fun W hW => ⟨⟨List.nodup_nil, fun k hk => absurd hk List.not_mem_nil⟩, none, 0, hW.get HH5.out List.not_mem_nil, Own.nil0 _ _ _, hW.nil, fun k hk => by simp [blk] at hk⟩)
      ?a1 ?assign ?body ?done
    case assign =>
      intro l x W K hK
      gi_wp2
      exact hK
    case body =>
      rintro l pre x W hI hx hfx hsize
      obtain ⟨hdom, ao, cap, hbox, ho, hm, hbad⟩ := hI
      obtain ⟨z, rfl, hz⟩ := mapV_some hfx
      have hcell := cell_of_one hbox
      have hfree := free_of_one hbox
      have HB := Lib.hid hbox
      have HW := Lib.hid ho
      have HMW := Lib.hid hm
      have HBAD := Lib.hid hbad
      have hpl : pre.length ≤ 100000 := by
        have := HE.out.bound hdom.1 hdom.2
        omega
      have HDM := Lib.hid hdom
      have hnd : (pre ++ [Value.int .u32 z]).Nodup ∧ ∀ k ∈ pre ++ [Value.int .u32 z], (mapV f k).isSome = true := by
        refine ⟨?_, fun k hk => ?_⟩
        · rw [List.nodup_append]
          refine ⟨hdom.1, by simp, fun a ha a' ha' => ?_⟩
          rw [List.mem_singleton] at ha'
          rintro rfl
          rw [ha'] at ha
          exact hx ha
        · rw [List.mem_append, List.mem_singleton] at hk
          rcases hk with h | rfl
          · exact hdom.2 k h
          · exact hfx
      have HND := Lib.hid hnd
      clear hbox ho hm hbad hdom hnd
      have fin : ∀ (a2 : Option Addr) (c2 : Nat) (w4 : World), Own w4 23 1 a2 (pre.length + 1) c2 (pre ++ [Value.int .u32 z]) → Mod (blk ao) (W.alloc (.cells #[.int .u32 z] 23)) w4 → SameOrNew (W.alloc (.cells #[.int .u32 z] 23)) w4 ao a2 →
          (w4.heap[bb]? = some (.cells #[.slice ao pre.length cap] 65 (0, 0)) ∧
          goesK b (w5.heap.size + 2) (KeyInv (mapV f) w5 bb [w5.heap.size, w5.heap.size + 1, w5.heap.size + 2]) (pre ++ [Value.int .u32 z]) W .normal { tmps := #[], defers := [] } (w4.setCell ⟨bb, 0, none⟩ (.slice a2 (pre.length + 1) c2))) := by
        intro a2 c2 w4 ho4 hm4 hsn4
        have hma := Mod.alloc (blk ao) W (.cells #[.int .u32 z] 23)
        have hm5 : Mod (blk ao) W w4 := hma.trans' hm4
        have hb4 : w4.heap[bb]? = some (.cells #[.slice ao pre.length cap] 65 (0, 0)) := hm5.get HB.out (fun h => (HBAD.out _ h).2.1 rfl)
        have hms : Mod [bb] w4 (w4.setCell ⟨bb, 0, none⟩ (.slice a2 (pre.length + 1) c2)) := Mod.setCell _ _ _ (by simp)
        have hbne : b ≠ bb := by
          rintro rfl
          obtain ⟨es, clock, e1, _⟩ := hMap
          have := HH5.out
          rw [e1] at this
          cases this
        have hbW : b < W.heap.size := by have := HMW.out.size; omega
        have hblk2 : ∀ k, k ∈ blk a2 → k ∈ blk ao ∨ W.heap.size + 1 ≤ k := fun k hk => by have := hsn4.blk k hk; simpa using this
        refine ⟨hb4, ?_, ?_, ?_, ?_⟩
        · refine (keepsOthers_of hm5 (Own.isCells HW.out)).trans ?_
          exact keepsOthers_of hms (by intro k hk o ho; simp only [List.mem_singleton] at hk; subst hk; rw [hb4] at ho; cases ho; rfl)
        · rw [hms.block b (by have := hm5.size; omega) (by simp; exact hbne)]
          exact hm5.block b hbW (fun h => by have := (HBAD.out _ h).1; omega)
        · rw [hms.block _ (by have := hm5.size; omega) (by simp; omega)]
          exact hm5.block _ (by omega) (fun h => by have := (HBAD.out _ h).2.2; simp at this)
        · refine ⟨HND.out, a2, c2, ?_, ?_, ?_, ?_⟩
          · rw [List.length_append]
            simpa using one_setCell (u := .slice a2 (pre.length + 1) c2) hb4
          · rw [List.length_append]
            refine Own.mod ho4 hms (fun k hk hs => ?_)
            simp only [List.mem_singleton] at hs
            rcases hblk2 k hk with h | h
            · exact (HBAD.out k h).2.1 hs
            · have := HMW.out.size; omega
          · refine (HMW.out.trans hm5 ?_).trans' hms
            intro i hi hl
            have := (HBAD.out i hi).1
            omega
          · intro k hk
            rcases hblk2 k hk with h | h
            · exact HBAD.out k h
            · have := HMW.out.size
              refine ⟨by omega, by omega, by simp; omega⟩
      have FIN := Lib.hid fin
      have SH : Hid (Shows (W.alloc (.cells #[.int .u32 z] 23)) (some ⟨W.heap.size, 0, none⟩) [Value.int .u32 z]) := Lib.hid (by
        intro j u hj
        have : j = 0 := by
          have := (List.getElem?_eq_some_iff.1 hj).1
          simpa using this
        subst this
        refine ⟨_, rfl, ?_⟩
        rw [Addr.add_lit, cell_of_block (heap_alloc_new W _)]
        exact hj)
      have HOW := Lib.hid (Own.mod0 HW.out (Mod.alloc [] W (.cells #[.int .u32 z] 23)))
      clear fin hx hfx hz
      gi_wp2_with (gi_at_builtin; refine wplIn_appV (dst := some 31) _ _ ao _ cap pre rfl HOW.out _ 1 1 [Value.int .u32 z] rfl rfl SH.out (by simp [Value.oneCell']) (by omega) ?_; intro a2 c2 w4 ho4 hm4 hsn4; obtain ⟨hb4, hgo⟩ := FIN.out a2 c2 w4 ho4 hm4 hsn4; have hc4 := cell_of_one hb4; have hf4 := free_of_one hb4; have HGO := Lib.hid hgo; clear hgo hb4 ho4 hm4 hsn4)
      exact HGO.out
    case done =>
      intro W ks hnd hks hI hD
      obtain ⟨hdom, ao, cap, hbox, ho, hm, hbad⟩ := hI
      have hkl : ks.length = n := hMap.count hnd hks
      obtain ⟨d0, hd0⟩ : ∃ d0 : List Nat, d0.map u32V = ks := ⟨ks.map (fun v => match v with | .int _ z => z.toNat | _ => 0), by
        rw [List.map_map]
        conv => rhs; rw [← List.map_id ks]
        refine List.map_congr_left fun k hk => ?_
        have h1 := (HE.out.mem k).2 ((hks k).1 hk)
        obtain ⟨x, _, rfl⟩ := List.mem_map.1 h1
        show u32V ((x.1 : Int).toNat) = u32V x.1
        simp⟩
      have hd0l : d0.length = n := by rw [← hkl, ← hd0, List.length_map]
      obtain ⟨ga, rfl, hgaW⟩ := Own.ne_none ho (by omega)
      have hrow : Row W ga cap d0.toArray := by
        unfold Row OwnM
        rw [List.toList_toArray, hd0l, hd0, ← hkl]
        exact ho
      have hgab := hbad ga (by simp [blk])
      have HDEF := Lib.hid hD
      have HMW := Lib.hid (HM5.out.trans hm (fun i hi hl => by simp at hi; have := HBB.out; have := HM2.out.size; omega))
      have HBX := Lib.hid hbox
      have HOW : Hid (OwnB W ob oc (enc7 n)) := Lib.hid (HO5.out.mod hm (fun k hk hk2 => by simp at hk2; have := HLT4.out k hk; omega))
      have HSORT := Lib.hid (sort32_any ga cap n d0.toArray W hrow (by simp [hd0l]) (by omega) (by omega))
      have HSO : Hid (∀ d' : Array Nat, d'.toList.Perm d0 → Sort.SortedIn ltN 0 n d' → d'.toList = E.map (·.1)) := Lib.hid fun d' h1 h2 => HE.out.sorted hnd hks (d := d0.toArray) (by rw [List.toList_toArray]; exact hd0) (by rw [List.toList_toArray]; exact h1) (by simpa [hd0l] using h2)
      have hcW := cell_of_one hbox
      have hbW : bb < W.heap.size := by have := hm.size; omega
      have h5W := hm.size
      rw [hkl] at hcW
      clear hdom hbox ho hm hbad hnd hks hd0 hrow hD hkl
      go_wp2_with fail
      refine HSORT.out.mono ?_
      rintro e w6 ⟨d', rfl, hR6, hp6, hs6, hm6⟩
      have hdE := HSO.out d' (by simpa using hp6) hs6
      have HDE := Lib.hid hdE
      have hds : d'.size = n := by have := congrArg List.length hdE; simp at this; rw [this]; exact HNE.out.symm
      have HR6 := Lib.hid hR6
      have HM6 := Lib.hid (HMW.out.trans hm6 (fun i hi hl => by simp at hi; have := HM5.out.size; omega))
      have HDEF6 := Lib.hid (hm6.get HDEF.out (by have := hgab.2.2; simp at this ⊢; omega))
      have HO6 : Hid (OwnB w6 ob oc (enc7 n)) := Lib.hid (HOW.out.mod hm6 (fun k hk hk2 => by simp at hk2; have := HLT4.out k hk; omega))
      have HBX6 := hm6.cell hcW (by simp; omega)
      have h6W := hm6.size
      clear hR6 hp6 hs6 hm6 hdE HSORT HSO HOW HDEF HMW hcW
      go_wp2
      go_loopw [1, 8, 36] (fun s1 _ s36 wr => ∃ (j : Nat) (oa : Option Addr) (m c : Nat), j ≤ n ∧ s36 = .int .i64 (j : Int) ∧ s1 = .slice oa m c ∧ (enc7 n ++ (E.take j).flatMap clB).length = m ∧ OwnB wr oa c (enc7 n ++ (E.take j).flatMap clB) ∧ (∀ k, k ∈ blk oa → w1.heap.size ≤ k ∧ k ≠ ga ∧ k ≠ w5.heap.size) ∧ Row wr ga cap d' ∧ wr.heap[w5.heap.size]? = some (.deferred (some [])) ∧ Mod [] w1 wr) (fun _ _ s36 _ => n - (RowKit.intOf s36).toNat)
      case atStart =>
        exact ⟨0, ob, m2, oc, Nat.zero_le _, rfl, rfl, by simpa using HL2.out, by simpa using HO6.out, fun k hk => ⟨HB2.out k hk, by have := HLT4.out k hk; omega, by have := HLT4.out k hk; omega⟩, HR6.out, HDEF6.out, HM6.out⟩
      case round =>
        obtain ⟨j, oa, m, c, hj, rfl, rfl, hl, ho, hb, hR, hdf, hM⟩ := hrel
        have HL := Lib.hid hl
        have HO := Lib.hid ho
        have HB := Lib.hid hb
        have HR := Lib.hid hR
        have HDF := Lib.hid hdf
        have HM := Lib.hid hM
        have c0 : wr.cell? ⟨g, 0, none⟩ = some (.pointer (some ⟨gc, 0, none⟩)) := by rw [cell_of_block (hM.get t1 List.not_mem_nil)]; rfl
        have c1 : wr.cell? ⟨gc, 0, none⟩ = some (.map (some b)) := by rw [cell_of_block (hM.get t2 List.not_mem_nil)]; rfl
        have HMAP := Lib.hid (HT3.out.mod0 hM)
        clear hl ho hb hR hdf hM HR6 HDEF6 HM6 HO6
        by_cases hlt : j < n
        · have hjE : j < E.length := by rw [← HNE.out]; exact hlt
          obtain ⟨⟨cl, sq, cd, tx⟩, hx⟩ : ∃ x, E[j] = x := ⟨_, rfl⟩
          have hxm : (cl, sq, cd, tx) ∈ E := hx ▸ List.getElem_mem hjE
          have hok := HE.out.2.1 _ hxm
          have hv : mapV f (.int .u32 (cl : Int)) = some (.agg #[.int .u32 (sq : Int), .int .u8 (cd : Int), .string tx]) := by
            show (f (cl : Int)).map entV = _
            rw [(HE.out.2.2 _ _).2 ⟨_, hxm, rfl, rfl⟩]
            rfl
          have HV := Lib.hid hv
          have htk : Hid ((E.take (j + 1)).flatMap clB = (E.take j).flatMap clB ++ clB (cl, sq, cd, tx)) := Lib.hid (by rw [take_snoc E j hjE, hx, List.flatMap_append]; simp)
          have hdj : d'[j]! = cl := by
            have h1 : d'.toList[j]? = some cl := by rw [HDE.out, List.getElem?_map, List.getElem?_eq_getElem hjE, hx]; rfl
            have h2 : j < d'.size := by omega
            rw [Array.getElem?_toList] at h1
            simp [h2] at h1 ⊢
            exact h1
          have cj := HR.out.cell (by omega) hdj
          have hml : m ≤ 110000000000 := by
            rw [← HL.out, List.length_append]
            have e1 := (enc7_length n).2
            have e2 := flat_len (E := E.take j) (fun y hy => HE.out.2.1 y (List.mem_of_mem_take hy))
            rw [List.length_take] at e2
            have : (min j E.length) * 1000044 ≤ 100000 * 1000044 := Nat.mul_le_mul_right _ (by omega)
            omega
          have hok1 := hok.1
          have hok2 := hok.2.1
          have hok3 := hok.2.2.1
          have hok4 := hok.2.2.2
          dsimp only at hok1 hok2 hok3 hok4
          clear hx hxm hok hv hdj
          obtain ⟨wA, hwA, hhA⟩ : ∃ wA, wr.alloc (.cells #[.int .u32 (sq : Int), .int .u8 (cd : Int), .string tx] 54) = wA ∧ wA.heap[wr.heap.size]? = some (.cells #[.int .u32 (sq : Int), .int .u8 (cd : Int), .string tx] 54 (0, 0)) := ⟨_, rfl, heap_alloc_new _ _⟩
          have mA : Mod [] wr wA := hwA ▸ Mod.alloc _ _ _
          have zA : wA.heap.size = wr.heap.size + 1 := by rw [← hwA]; simp
          have Q0 : Hid (wA.cell? ⟨wr.heap.size, 0, none⟩ = some (.int .u32 (sq : Int))) := Lib.hid (cell_of_block (i := 0) hhA)
          have Q1 : Hid (wA.cell? ⟨wr.heap.size, 1, none⟩ = some (.int .u8 (cd : Int))) := Lib.hid (cell_of_block (i := 1) hhA)
          have Q2 : Hid (wA.cell? ⟨wr.heap.size, 2, none⟩ = some (.string tx)) := Lib.hid (cell_of_block (i := 2) hhA)
          have HOA := Lib.hid (HO.out.mod0 mA)
          have HMA := Lib.hid mA
          obtain ⟨bs, hbs⟩ : ∃ l, enc7 n ++ (E.take j).flatMap clB = l := ⟨_, rfl⟩
          rw [hbs] at HL HOA
          have HBS := Lib.hid hbs
          have hqa : wr.heap.size ∉ blk oa := fun h => by have := Own.lt HO.out _ h; omega
          have ew1 : IntKind.u64.wrap (cl : Int) = (cl : Int) := by rw [IntKind.wrap_u64]; omega
          have ew2 : IntKind.u64.wrap (sq : Int) = (sq : Int) := by rw [IntKind.wrap_u64]; omega
          have ew3 : IntKind.u64.wrap (cd : Int) = (cd : Int) := by rw [IntKind.wrap_u64]; omega
          obtain ⟨k0, hk0⟩ : ∃ q, wr.heap.size = q := ⟨_, rfl⟩
          rw [hk0] at Q0 Q1 Q2 hqa zA
          have HK0 := Lib.hid hk0
          clear hhA mA hbs HO
          go_upto_region 13 with (at_lookup; refine wpl_lookupF (dst := some 48) _ _ _ HMAP.out Try.underlying48 Try.underlying23 rfl rfl rfl HV.out ?_)
          clear hwA hk0
          refine wp_onlyN ?_
          refine rest_start (blk oa) 14 #[false, false, false, false, false, false, false, false, false, false, false, false, false, false] rfl (by kernel_rfl) (by kernel_rfl) ?_
          intro w7 m7
          have P0 := Lib.hid (m7.cell Q0.out List.not_mem_nil)
          have P1 := Lib.hid (m7.cell Q1.out List.not_mem_nil)
          have P2 := Lib.hid (m7.cell Q2.out List.not_mem_nil)
          have N7 := Lib.hid m7
          have HU7 := Lib.hid (vuint_any oa m c cl bs w7 HL.out (HOA.out.mod0 m7) (by omega) (by omega))
          unfold RetApp at HU7
          have z7 := m7.size
          clear m7 Q0 Q1 Q2
          refine rest_got (i := 0) (v := ?v1) rfl (by kernel_rfl) (by kernel_rfl) (by kernel_rfl) (fun _ _ _ h => h) (by rfl) ?y1 ?r1
          case y1 => (intro w9q hSwq; clear hSwq; go_simp; with_reducible rfl)
          try simp only [Act.put, List.setIfInBounds_toArray, List.set_cons_zero, List.set_cons_succ]
          refine rest_got (i := 1) (v := ?v2) rfl (by kernel_rfl) (by kernel_rfl) (by kernel_rfl) (fun _ _ _ h => h) (by rfl) ?y2 ?r2
          case y2 => (intro w9q hSwq; clear hSwq; go_simp; with_reducible rfl)
          try simp only [Act.put, List.setIfInBounds_toArray, List.set_cons_zero, List.set_cons_succ]
          refine rest_got (i := 2) (v := ?v3) rfl (by kernel_rfl) (by kernel_rfl) (by kernel_rfl) (fun _ _ _ h => h) (by rfl) ?y3 ?r3
          case y3 => (intro w9q hSwq; clear hSwq; go_simp; with_reducible rfl)
          try simp only [Act.put, List.setIfInBounds_toArray, List.set_cons_zero, List.set_cons_succ]
          refine rest_got (i := 4) (v := ?v4) rfl (by kernel_rfl) (by kernel_rfl) (by kernel_rfl) (fun _ _ _ h => h) (by rfl) ?y4 ?r4
          case y4 => (intro w9q hSwq; clear hSwq; go_simp; with_reducible rfl)
          try simp only [Act.put, List.setIfInBounds_toArray, List.set_cons_zero, List.set_cons_succ]
          refine rest_got (i := 5) (v := ?v5) rfl (by kernel_rfl) (by kernel_rfl) (by kernel_rfl) (fun _ _ _ h => h) (by rfl) ?y5 ?r5
          case y5 => ((intro w9' hm9'; have hc9' := Mod.cell hm9' P0.out (by first | exact List.not_mem_nil | assumption | (simp; done) | (simp; omega)); clear hm9'; go_simp; with_reducible rfl))
          try simp only [Act.put, List.setIfInBounds_toArray, List.set_cons_zero, List.set_cons_succ]
          refine rest_got (i := 6) (v := ?v6) rfl (by kernel_rfl) (by kernel_rfl) (by kernel_rfl) (fun _ _ _ h => h) (by rfl) ?y6 ?r6
          case y6 => (intro w9q hSwq; clear hSwq; go_simp; with_reducible rfl)
          try simp only [Act.put, List.setIfInBounds_toArray, List.set_cons_zero, List.set_cons_succ]
          refine rest_got (i := 8) (v := ?v7) rfl (by kernel_rfl) (by kernel_rfl) (by kernel_rfl) (fun _ _ _ h => h) (by rfl) ?y7 ?r7
          case y7 => (intro w9q hSwq; clear hSwq; go_simp; with_reducible rfl)
          try simp only [Act.put, List.setIfInBounds_toArray, List.set_cons_zero, List.set_cons_succ]
          refine rest_got (i := 9) (v := ?v8) rfl (by kernel_rfl) (by kernel_rfl) (by kernel_rfl) (fun _ _ _ h => h) (by rfl) ?y8 ?r8
          case y8 => (intro w9q hSwq; clear hSwq; go_simp; with_reducible rfl)
          try simp only [Act.put, List.setIfInBounds_toArray, List.set_cons_zero, List.set_cons_succ]
          refine rest_got (i := 10) (v := ?v9) rfl (by kernel_rfl) (by kernel_rfl) (by kernel_rfl) (fun _ _ _ h => h) (by rfl) ?y9 ?r9
          case y9 => ((intro w9' hm9'; have hc9' := Mod.cell hm9' P1.out (by first | exact List.not_mem_nil | assumption | (simp; done) | (simp; omega)); clear hm9'; go_simp; with_reducible rfl))
          try simp only [Act.put, List.setIfInBounds_toArray, List.set_cons_zero, List.set_cons_succ]
          refine rest_got (i := 11) (v := ?v10) rfl (by kernel_rfl) (by kernel_rfl) (by kernel_rfl) (fun _ _ _ h => h) (by rfl) ?y10 ?r10
          case y10 => (intro w9q hSwq; clear hSwq; go_simp; with_reducible rfl)
          try simp only [Act.put, List.setIfInBounds_toArray, List.set_cons_zero, List.set_cons_succ]
          refine rest_one (i := 3) (by kernel_rfl) rfl (by rfl) ?_
          go_wp2_with fail
          refine HU7.out.mono ?_
          rintro e w8 ⟨a8, n8, c8, rfl, hl8, ho8, m8, s8⟩
          have hq8 : k0 ∉ blk a8 := fun h => by rcases s8.blk _ h with h | h; exact hqa h; omega
          have P82 := Lib.hid (m8.cell P2.out hqa)
          have hn8 : n8 ≤ m + 11 := by rw [← hl8, List.length_append, HL.out]; have := (enc7_length cl).2; omega
          have HU8 := Lib.hid (vuint_any a8 n8 c8 sq (bs ++ enc7 cl) w8 hl8 ho8 (by omega) (by omega))
          unfold RetApp at HU8
          have N8 := Lib.hid (N7.out.nil.trans' m8)
          have S8 := Lib.hid s8
          have z8 := m8.size
          go_wp2_with fail
          refine back_to (K1 := blk a8) m8 (fun k hk hl => by rcases s8.blk _ hk with h | h; exact h; omega) ?_
          clear hl8 ho8 m8 s8 HU7 P2 N7
          
          refine rest_one (i := 7) (by kernel_rfl) rfl (by rfl) ?_
          go_wp2_with fail
          refine HU8.out.mono ?_
          rintro e w9 ⟨a9, n9, c9, rfl, hl9, ho9, m9, s9⟩
          have hq9 : k0 ∉ blk a9 := fun h => by rcases s9.blk _ h with h | h; exact hq8 h; omega
          have P92 := Lib.hid (m9.cell P82.out hq8)
          have hn9 : n9 ≤ m + 22 := by rw [← hl9, List.length_append, List.length_append, HL.out]; have := (enc7_length cl).2; have := (enc7_length sq).2; omega
          have HU9 := Lib.hid (vuint_any a9 n9 c9 cd (bs ++ enc7 cl ++ enc7 sq) w9 hl9 ho9 (by omega) (by omega))
          unfold RetApp at HU9
          have N9 : Hid (Mod (blk oa) wA w9) := Lib.hid (N8.out.trans m9 (fun i hi hl => by rcases S8.out.blk _ hi with h | h; exact h; omega))
          have S9 := Lib.hid (SameOrNew.trans S8.out s9 z8 m9.size)
          have z9 := m9.size
          go_wp2_with fail
          refine back_to (K1 := blk a9) m9 (fun k hk hl => by rcases s9.blk _ hk with h | h; exact h; omega) ?_
          clear hl9 ho9 m9 s9 HU8 P82 N8 S8
          
          refine rest_one (i := 12) (by kernel_rfl) rfl (by rfl) ?_
          go_wp2_with fail
          refine HU9.out.mono ?_
          rintro e wB ⟨aB, nB, cB, rfl, hlB, hoB, mB, sB⟩
          have hqB : k0 ∉ blk aB := fun h => by rcases sB.blk _ h with h | h; exact hq9 h; omega
          have PB2 := Lib.hid (mB.cell P92.out hq9)
          have hnB : nB ≤ m + 33 := by rw [← hlB, List.length_append, List.length_append, List.length_append, HL.out]; have := (enc7_length cl).2; have := (enc7_length sq).2; have := (enc7_length cd).2; omega
          have HUB := Lib.hid (vtext_any aB nB cB tx (bs ++ enc7 cl ++ enc7 sq ++ enc7 cd) wB hlB hoB (by omega) hok4)
          unfold RetApp at HUB
          have NB : Hid (Mod (blk oa) wA wB) := Lib.hid (N9.out.trans mB (fun i hi hl => by rcases S9.out.blk _ hi with h | h; exact h; omega))
          have SB := Lib.hid (SameOrNew.trans S9.out sB (by omega) mB.size)
          have zB := mB.size
          go_wp2_with fail
          refine back_to (K1 := []) mB (by simp) ?_
          clear hlB hoB mB sB HU9 P92 N9 S9
          refine rest_got (i := 13) (v := ?v11) rfl (by kernel_rfl) (by kernel_rfl) (by kernel_rfl) (fun _ _ _ h => h) (by rfl) ?y11 ?r11
          case y11 => (intro w9q hSwq; clear hSwq; go_simp; with_reducible rfl)
          try simp only [Act.put, List.setIfInBounds_toArray, List.set_cons_zero, List.set_cons_succ]
          refine rest_done (by kernel_rfl) ?_ _
          simp only [onlyN]
          have pb2 := PB2.out
          go_wp2_with fail
          refine HUB.out.mono ?_
          rintro e wC ⟨aC, nC, cC, rfl, hlC, hoC, mC, sC⟩
          have NC : Hid (Mod (blk oa) wr wC) := Lib.hid ((HMA.out.nil.trans' NB.out).trans mC (fun i hi hl => by rcases SB.out.blk _ hi with h | h; exact h; have := HK0.out; omega))
          have SC := Lib.hid (SameOrNew.trans SB.out sC (by omega) mC.size)
          have hbytes : bs ++ enc7 cl ++ enc7 sq ++ enc7 cd ++ enc7 tx.size ++ tx.data.toList = enc7 n ++ (E.take (j + 1)).flatMap clB := by
            rw [htk.out, ← HBS.out]
            unfold clB
            simp only [List.append_assoc]
          rw [hbytes] at hlC hoC
          have HLC := Lib.hid hlC
          have HOC := Lib.hid hoC
          have HBC : Hid (∀ k, k ∈ blk aC → w1.heap.size ≤ k ∧ k ≠ ga ∧ k ≠ w5.heap.size) := Lib.hid fun k hk => by
            rcases SC.out.blk k hk with h | h
            · exact HB.out k h
            · have e1 := HR.out.lt
              have e2 := lt_of_block HDF.out
              have e3 := HK0.out
              have e4 := HM.out.size
              omega
          have HRC := Lib.hid (HR.out.mod NC.out (fun h => (HB.out _ h).2.1 rfl))
          have HDC := Lib.hid (NC.out.get HDF.out (fun h => (HB.out _ h).2.2 rfl))
          have HMC := Lib.hid (HM.out.trans NC.out (fun i hi hl => absurd (HB.out i hi).1 (by omega)))
          clear hlC hoC mC sC HUB NC SC NB SB
          go_wp2
          go_roundw
          case rel => exact ⟨j + 1, aC, nC, cC, by omega, by go_num, rfl, HLC.out, HOC.out, HBC.out, HRC.out, HDC.out, HMC.out⟩
          case measure => first | (simp [RowKit.intOf]; done) | (simp [RowKit.intOf]; omega)
        · have hjn : j = n := by omega
          have he : enc7 n ++ (E.take j).flatMap clB = tabB E := by
            rw [List.take_of_length_le (by have := HNE.out; omega)]
            unfold tabB
            rw [HNE.out]
          rw [he] at HL HO
          clear he
          go_wp2
          refine ⟨by simp, .inl ⟨_, _, rfl, run_takeDeferred HDF.out, ?_⟩⟩
          refine ⟨_, results_tmp rfl _ _ _, ?_⟩
          have hp := mod_putObj (S := [w5.heap.size]) wr w5.heap.size (.deferred none) (by simp)
          refine ⟨oa, m, c, rfl, HL.out, ?_, fun k hk => (HB.out k hk).1, ?_⟩
          · exact HO.out.mod (mod_putObj (S := [w5.heap.size]) _ _ _ (by simp)) (fun k hk hs => by simp at hs; exact (HB.out k hk).2.2 hs)
          · exact HM.out.trans (mod_putObj (S := [w5.heap.size]) _ _ _ (by simp)) (fun i hi hl => by simp at hi; have := HM5.out.size; omega)
end Go.Proofs.Ytgneigdcgfiooaa
