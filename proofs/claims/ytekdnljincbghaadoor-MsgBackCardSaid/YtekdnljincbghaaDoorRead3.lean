/- The walks of the varint package's reader: signed numbers, texts, the end; a new one. -/
import Derived.Test.YtekdnljincbghaaDoorRead2
import Derived.Test.YtekdnljincbghaaDoorRegion
namespace Go.Proofs.YtekdnljincbghaaDoor
open Go Go.RowKit

/-- A number from 0 on, as a signed one. -/
def zag (n : Nat) : Int := if n % 2 = 0 then ((n / 2 : Nat) : Int) else -((n / 2 : Nat) : Int) - 1

theorem uintR_lt (k : Nat) : ∀ (i n : Nat) (l : List UInt8), n < 2 ^ (7 * i) → i + k = 10 → (uintR k i n l).1 < 18446744073709551616 := by
  induction k with
  | zero => intro i n l _ _; simp [uintR]
  | succ k ih =>
    intro i n l hn hk
    cases l with
    | nil => simp [uintR]
    | cons c r =>
      unfold uintR
      split
      · simp
      · rename_i hbad
        have h9 : i = 9 → c.toNat ≤ 1 := fun h => by
          by_cases h1 : 1 < c.toNat
          · exact absurd (.inl ⟨h, h1⟩) hbad
          · omega
        split
        · show n + c.toNat % 128 * 2 ^ (7 * i) < _
          by_cases h : i = 9
          · subst h
            have h1 : c.toNat % 128 ≤ 1 := by have := h9 rfl; omega
            have h2 : 2 ^ (7 * 9) = 9223372036854775808 := by decide
            rw [h2] at *
            omega
          · have h1 := acc_next n i c hn
            have h2 : 2 ^ (7 * (i + 1)) ≤ 2 ^ 63 := Nat.pow_le_pow_right (by omega) (by omega)
            omega
        · by_cases h : i = 9
          · rename_i h128
            have := h9 h; omega
          · exact ih (i + 1) _ r (acc_next n i c hn) (by omega)
theorem uintE_lt (e : Int) (l : List UInt8) : (uintE 10 0 0 e l).1 < 18446744073709551616 := by
  unfold uintE
  split
  · exact uintR_lt 10 0 0 l (by decide) rfl
  · simp
theorem xor_i64 (n : Nat) (h : n < 9223372036854775808) (m : Int) (hm : m = 0 ∨ m = -1) : bits .xor .i64 (n : Int) m = if m = 0 then (n : Int) else -(n : Int) - 1 := by
  have e2 : BitVec.ofInt 64 (n : Int) = BitVec.ofNat 64 n := BitVec.ofInt_natCast 64 n
  show IntKind.i64.wrap ((BitVec.ofInt 64 (n : Int) ^^^ BitVec.ofInt 64 m).toNat : Int) = _
  rcases hm with rfl | rfl
  · have e1 : BitVec.ofInt 64 0 = 0#64 := by decide
    rw [e1, e2, BitVec.xor_zero, BitVec.toNat_ofNat, Nat.mod_eq_of_lt (by omega), if_pos rfl, IntKind.wrap_i64]
    omega
  · have e1 : BitVec.ofInt 64 (-1) = BitVec.allOnes 64 := by decide
    rw [e1, e2, BitVec.xor_allOnes, BitVec.toNat_not, BitVec.toNat_ofNat, Nat.mod_eq_of_lt (by omega), if_neg (by decide), IntKind.wrap_i64]
    omega
theorem zag_walk (n : Nat) (h : n < 18446744073709551616) :
    bits BinOp.xor IntKind.i64 (wrap64 ((n : Int) / 2)) (wrap64 (-wrap64 (bits BinOp.and IntKind.u64 (n : Int) 1))) = zag n := by
  have e1 : bits BinOp.and IntKind.u64 (n : Int) 1 = ((n % 2 : Nat) : Int) := by
    have := bits_and_u64_nat n 1 h (by omega)
    rw [Nat.and_one_is_mod] at this
    exact this
  have e2 : wrap64 ((n : Int) / 2) = ((n / 2 : Nat) : Int) := by
    unfold wrap64; omega
  rw [e1, e2]
  rcases Nat.mod_two_eq_zero_or_one n with h0 | h0
  · have w0 : wrap64 (-wrap64 ((0 : Nat) : Int)) = 0 := by unfold wrap64; omega
    rw [h0, w0, xor_i64 _ (by omega) _ (.inl rfl), if_pos rfl, zag, if_pos h0]
  · have w1 : wrap64 (-wrap64 ((1 : Nat) : Int)) = -1 := by unfold wrap64; omega
    rw [h0, w1, xor_i64 _ (by omega) _ (.inr rfl), if_neg (by omega), zag, if_neg (by omega)]
/-- The end. -/
def doneR (e : Int) (l : List UInt8) : Int := if e = 0 then (if l = [] then 0 else 11) else e
set_option maxHeartbeats 1000000 in
theorem rdone_any (g : Nat) (bs : List Nat) (e : Int) (l : List UInt8) (lim : Int) (w : World) (h : Rd w g bs e l lim) :
    Calls Tryd.prog 42 #[.pointer (some ⟨g, 0, none⟩)] w fun r w' => r = .returned (.int .i64 (doneR e l)) ∧ Rd w' g bs (doneR e l) l lim ∧ Mod [g] w w' := by
  obtain ⟨ao, cap, c0, c1, c2, fr, h3, h4, h5, h6⟩ := h.open
  have fr0 := fr 0
  have H := Lib.hid h
  clear h fr h5 h6
  by_cases he : e = 0
  · subst he
    cases l with
    | nil =>
      go_enter Tryd.func42, Tryd.ntmps42
      go_wp2_with (go_at_call 60; refine (err_any g bs 0 [] lim _ H.out).mono ?_; rintro e w1 ⟨rfl, rfl⟩)
      go_ret
      exact ⟨rfl, H.out, Mod.refl _ _⟩
    | cons c r =>
      have hlen : (c :: r).length = r.length + 1 := rfl
      go_enter Tryd.func42, Tryd.ntmps42
      go_wp2_with (first | (go_at_call 60; refine (err_any g bs 0 (c :: r) lim _ H.out).mono ?_; rintro e w1 ⟨rfl, rfl⟩) | (go_at_call 61; refine (fail_any g 0 11 _ c0 fr0).mono ?_; rintro e w1 ⟨⟨v, rfl⟩, rfl⟩; simp only [if_true]))
      go_ret
      exact ⟨rfl, H.out.err 11, Mod.setCell _ _ _ (by simp)⟩
  · have hd : doneR e l = e := by simp [doneR, he]
    go_enter Tryd.func42, Tryd.ntmps42
    go_wp2_with (go_at_call 60; refine (err_any g bs e l lim _ H.out).mono ?_; rintro e w1 ⟨rfl, rfl⟩)
    go_ret
    rw [hd]
    exact ⟨rfl, H.out, Mod.refl _ _⟩

theorem blk_map (ao : Option Addr) (n : Nat) : blk (ao.map fun x => x.add n) = blk ao := by
  cases ao with
  | none => rfl
  | some a => simp only [Option.map_some, blk, Addr.add]; split <;> rfl
theorem Sees.dropMap {w : World} {ao : Option Addr} {l : List UInt8} (h : Sees w ao l) (n : Nat) : Sees w (ao.map fun x => x.add n) (l.drop n) := by
  intro j hj
  have hj' : n + j < l.length := by simp only [List.length_drop] at hj; omega
  obtain ⟨b, off, rfl, h2⟩ := h (n + j) hj'
  refine ⟨b, off + n, by simp [Addr.add_lit], ?_⟩
  rw [List.getElem_drop, Nat.add_assoc]; exact h2
/-- A text. -/
def textR (lim e : Int) (l : List UInt8) : List UInt8 × Int × List UInt8 :=
  if (uintE 10 0 0 e l).2.1 ≠ 0 then ([], (uintE 10 0 0 e l).2.1, (uintE 10 0 0 e l).2.2)
  else if max lim 0 < ((uintE 10 0 0 e l).1 : Int) then ([], 11, (uintE 10 0 0 e l).2.2)
  else if (uintE 10 0 0 e l).2.2.length < (uintE 10 0 0 e l).1 then ([], 10, (uintE 10 0 0 e l).2.2)
  else ((uintE 10 0 0 e l).2.2.take (uintE 10 0 0 e l).1, 0, (uintE 10 0 0 e l).2.2.drop (uintE 10 0 0 e l).1)
set_option maxRecDepth 100000 in
set_option maxHeartbeats 1000000 in
theorem rtext_any (g : Nat) (bs : List Nat) (e : Int) (l : List UInt8) (lim : Int) (w : World) (h : Rd w g bs e l lim) (hl1 : -9223372036854775808 ≤ lim) (hl2 : lim ≤ 9223372036854775807) :
    Calls Tryd.prog 72 #[.pointer (some ⟨g, 0, none⟩)] w fun r w' => r = .returned (strV (textR lim e l).1) ∧ Rd w' g bs (textR lim e l).2.1 (textR lim e l).2.2 lim ∧ Mod [g] w w' := by
  have H := Lib.hid h
  clear h
  have hu := uintE_lt e l
  have ht : textR lim e l = if (uintE 10 0 0 e l).2.1 ≠ 0 then ([], (uintE 10 0 0 e l).2.1, (uintE 10 0 0 e l).2.2)
    else if max lim 0 < ((uintE 10 0 0 e l).1 : Int) then ([], 11, (uintE 10 0 0 e l).2.2)
    else if (uintE 10 0 0 e l).2.2.length < (uintE 10 0 0 e l).1 then ([], 10, (uintE 10 0 0 e l).2.2)
    else ((uintE 10 0 0 e l).2.2.take (uintE 10 0 0 e l).1, 0, (uintE 10 0 0 e l).2.2.drop (uintE 10 0 0 e l).1) := rfl
  have HT := Lib.hid ht
  clear ht
  go_enter Tryd.func72, Tryd.ntmps72
  go_wp2_with fail
  refine (ruint_any g bs e l lim _ H.out).mono ?_
  rintro e1 w1 ⟨rfl, hr1, hm1⟩
  revert hr1 hu HT
  generalize uintE 10 0 0 e l = u
  obtain ⟨n, e2, l2⟩ := u
  intro hu HT hr1
  simp only at hr1 hu ⊢
  have HR1 := Lib.hid hr1
  have HM1 := Lib.hid hm1
  clear hr1 hm1 H
  obtain ⟨ao, cap, c0, c1, c2, fr, h3, h4, h5, h6⟩ := HR1.out.open
  have fr0 := fr 0
  have fr1 := fr 1
  have HS := Lib.hid h5
  have HB := Lib.hid h6
  clear fr h5 h6
  have ht := HT.out
  simp only at ht
  clear HT
  have hw : IntKind.u64.wrap (max lim 0) = max lim 0 := IntWalk.u64_in _ (by omega)
  have hw0 : lim < 0 → max lim 0 = 0 := by omega
  have hw1 : 0 ≤ lim → max lim 0 = lim := by omega
  by_cases he : e2 = 0
  · subst he
    by_cases hlim : max lim 0 < (n : Int)
    · simp only [hlim, ne_eq, not_true_eq_false, if_true, if_false] at ht
      have HT := Lib.hid ht
      clear ht
      rcases Int.lt_or_le lim 0 with hneg | hneg
      all_goals go_wp2_with (first | (go_at_call 60; refine (err_any g bs 0 l2 lim _ HR1.out).mono ?_; rintro e w1 ⟨rfl, rfl⟩) | (go_at_call 61; refine (fail_any g 0 11 _ c0 fr0).mono ?_; rintro e w1 ⟨⟨v, rfl⟩, rfl⟩; simp only [if_true]))
      all_goals go_ret
      all_goals rw [HT.out]
      all_goals exact ⟨rfl, HR1.out.err 11, HM1.out.trans' (Mod.setCell _ _ _ (by simp))⟩
    · by_cases hlen : l2.length < n
      · simp only [hlim, hlen, ne_eq, not_true_eq_false, if_true, if_false] at ht
        have HT := Lib.hid ht
        clear ht
        have hlen' : ((l2.length : Nat) : Int) < (n : Int) := by omega
        have hw3 : IntKind.u64.wrap ((l2.length : Nat) : Int) = ((l2.length : Nat) : Int) := IntWalk.u64_in _ (by omega)
        have hneg : 0 ≤ lim := by omega
        have hlm : ¬ lim < (n : Int) := by omega
        all_goals go_wp2_with (first | (go_at_call 60; refine (err_any g bs 0 l2 lim _ HR1.out).mono ?_; rintro e w1 ⟨rfl, rfl⟩) | (go_at_call 61; refine (fail_any g 0 10 _ c0 fr0).mono ?_; rintro e w1 ⟨⟨v, rfl⟩, rfl⟩; simp only [if_true]))
        all_goals go_ret
        all_goals rw [HT.out]
        all_goals exact ⟨rfl, HR1.out.err 10, HM1.out.trans' (Mod.setCell _ _ _ (by simp))⟩
      · simp only [hlim, hlen, ne_eq, not_true_eq_false, if_false] at ht
        have HT := Lib.hid ht
        clear ht
        have hlen' : ¬ ((l2.length : Nat) : Int) < (n : Int) := by omega
        have hw3 : IntKind.u64.wrap ((l2.length : Nat) : Int) = ((l2.length : Nat) : Int) := IntWalk.u64_in _ (by omega)
        have hnl : n ≤ l2.length := by omega
        have htl : (l2.take n).length = n := by simp; omega
        have hdl : (l2.drop n).length = l2.length - n := by simp
        have HST := Lib.hid (HS.out.take n)
        by_cases hn : n = cap
        · have hl2c : l2.length = n := by omega
          have hd0 : l2.drop n = [] := List.drop_eq_nil_of_le (by omega)
          have ht0 : l2.take n = l2 := List.take_of_length_le (by omega)
          subst hn hl2c
          clear hlen hlen' hnl htl hdl h3
          go_wp2_with (first | (go_at_call 60; refine (err_any g bs 0 l2 lim _ HR1.out).mono ?_; rintro e w1 ⟨rfl, rfl⟩) | (refine wpl_str _ ao _ _ l2 rfl rfl HS.out (by rfl) ?_) | fail)
          all_goals go_ret
          all_goals rw [HT.out, hd0, ht0]
          all_goals exact ⟨rfl, HR1.out.pass (by simp) (by omega) (by omega) (Sees.nil _ _) (fun h => absurd rfl h), HM1.out.trans' (Mod.setCell _ _ _ (by simp))⟩
        · go_wp2_with (first | (go_at_call 60; refine (err_any g bs 0 l2 lim _ HR1.out).mono ?_; rintro e w1 ⟨rfl, rfl⟩) | (refine wpl_str _ ao n cap (l2.take n) rfl htl HST.out (by rfl) ?_) | fail)
          all_goals go_ret
          all_goals rw [HT.out]
          all_goals exact ⟨rfl, HR1.out.pass hdl (by omega) (by omega) (HS.out.dropMap n) (by intro h0 k hk; exact HB.out (fun h => h0 (by rw [h]; simp)) k (by rwa [blk_map] at hk)), HM1.out.trans' (Mod.setCell _ _ _ (by simp))⟩
  · simp only [he, ne_eq, not_false_eq_true, if_true] at ht
    have HT := Lib.hid ht
    clear ht
    go_wp2_with (go_at_call 60; refine (err_any g bs e2 l2 lim _ HR1.out).mono ?_; rintro e w1 ⟨rfl, rfl⟩)
    go_ret
    rw [HT.out]
    exact ⟨rfl, HR1.out, HM1.out⟩
/-- A new reader, of bytes that are seen. -/
theorem newReader_any (ao : Option Addr) (len cap : Nat) (l : List UInt8) (lim : Int) (w : World) (hl : l.length = len) (hc : len ≤ cap) (hm : cap ≤ 9223372036854775807) (hs : Sees w ao l) :
    Calls Tryd.prog 39 #[.slice ao len cap, .int .i64 lim] w fun r w' => ∃ g, r = .returned (.pointer (some ⟨g, 0, none⟩)) ∧ Rd w' g (blkOf ao l) 0 l lim ∧ Mod [] w w' ∧ w.heap.size ≤ g := by
  subst hl
  go_enter Tryd.func39, Tryd.ntmps39
  go_wp2
  go_ret
  exact ⟨w.heap.size, rfl, ⟨fun hk => Nat.lt_irrefl _ (hs.ltOf _ hk), ao, cap, heap_alloc_new w _, hc, hm, hs.mod0 (Mod.alloc _ _ _), blkOf_mem⟩, Mod.alloc _ _ _, Nat.le_refl _⟩
end Go.Proofs.YtekdnljincbghaaDoor
