/- The reference's reader of a number: quorateref01.Take. -/
import Derived.Test.YtekdnljincbghaaDoorZ5
import Derived.Test.YtekdnljincbghaaDoorHMsgR3
import Derived.Handy
namespace Go.Proofs.YtekdnljincbghaaDoor
open Go Go.RowKit Go.Lib

/-- The bytes of a number, one by one. -/
theorem encF_at (f : Nat) : ∀ n, n < 128 ^ (f + 1) → ∀ j (hj : j < (encF f n).length), ((128 ≤ (encF f n)[j].toNat ↔ j + 1 < (encF f n).length) ∧ (encF f n)[j].toNat % 128 = n / 128 ^ j % 128) ∧ n / 128 ^ (encF f n).length = 0 := by
  induction f with
  | zero =>
    intro n h j hj
    have hn : n < 128 := by simpa using h
    have e : (UInt8.ofNat n).toNat = n := by rw [UInt8.toNat_ofNat']; omega
    simp only [encF, List.length_cons, List.length_nil] at hj ⊢
    obtain rfl : j = 0 := by omega
    simp only [List.getElem_cons_zero, e]
    omega
  | succ f ih =>
    intro n h j hj
    by_cases hn : n < 128
    · have e : (UInt8.ofNat n).toNat = n := by rw [UInt8.toNat_ofNat']; omega
      have e2 : encF (f + 1) n = [UInt8.ofNat n] := by simp [encF, hn]
      simp only [e2, List.length_cons, List.length_nil] at hj ⊢
      obtain rfl : j = 0 := by omega
      simp only [List.getElem_cons_zero, e]
      omega
    · have e2 : encF (f + 1) n = UInt8.ofNat (128 + n % 128) :: encF f (n / 128) := by simp [encF, hn]
      have hd : n / 128 < 128 ^ (f + 1) := by rw [Nat.div_lt_iff_lt_mul (by omega)]; rwa [Nat.pow_succ] at h
      have hp := (encF_length f (n / 128)).1
      have e : (UInt8.ofNat (128 + n % 128)).toNat = 128 + n % 128 := by rw [UInt8.toNat_ofNat']; omega
      simp only [e2, List.length_cons] at hj ⊢
      have dd : ∀ i, n / 128 ^ (i + 1) = n / 128 / 128 ^ i := fun i => by rw [Nat.pow_succ, Nat.mul_comm, Nat.div_div_eq_div_mul]
      cases j with
      | zero =>
        have h0 := ih (n / 128) hd 0 (by omega)
        simp only [List.getElem_cons_zero, e]
        rw [dd]
        refine ⟨⟨?_, by omega⟩, h0.2⟩
        constructor
        · intro _; omega
        · intro _; omega
      | succ j =>
        have h1 := ih (n / 128) hd j (by omega)
        simp only [List.getElem_cons_succ]
        rw [dd, dd]
        exact ⟨⟨by rw [h1.1.1]; omega, h1.1.2⟩, h1.2⟩
theorem enc7_at (n : Nat) (h : n < 18446744073709551616) (j : Nat) (hj : j < (enc7 n).length) : (128 ≤ (enc7 n)[j].toNat ↔ j + 1 < (enc7 n).length) ∧ (enc7 n)[j].toNat % 128 = n / 128 ^ j % 128 :=
  (encF_at 10 n (by simp only [Nat.reduceAdd, Nat.reducePow]; omega) j hj).1
theorem enc7_top (n : Nat) (h : n < 18446744073709551616) : n / 128 ^ (enc7 n).length = 0 :=
  (encF_at 10 n (by simp only [Nat.reduceAdd, Nat.reducePow]; omega) 0 (by have := (enc7_length n).1; unfold enc7 at this; omega)).2
theorem encF_len9 (f : Nat) : ∀ n, n < 128 ^ (f + 1) → ∀ i, (encF f n).length = i + 2 → 128 ^ (i + 1) ≤ n := by
  induction f with
  | zero => intro n _ i hi; simp [encF] at hi
  | succ f ih =>
    intro n h i hi
    by_cases hn : n < 128
    · simp [encF, hn] at hi
    · have e2 : encF (f + 1) n = UInt8.ofNat (128 + n % 128) :: encF f (n / 128) := by simp [encF, hn]
      rw [e2, List.length_cons] at hi
      have hd : n / 128 < 128 ^ (f + 1) := by rw [Nat.div_lt_iff_lt_mul (by omega)]; rwa [Nat.pow_succ] at h
      cases i with
      | zero => simp; omega
      | succ i =>
        have := ih (n / 128) hd i (by omega)
        rw [Nat.pow_succ]
        exact (Nat.le_div_iff_mul_le (by omega)).1 this
/-- At most ten bytes. -/
theorem enc7_ten (n : Nat) (h : n < 18446744073709551616) : (enc7 n).length ≤ 10 := by
  rcases Nat.lt_or_ge (enc7 n).length 11 with h1 | h1
  · omega
  · have h2 := (enc7_length n).2
    have h3 : 128 ^ 10 ≤ n := encF_len9 10 n (by simp only [Nat.reduceAdd, Nat.reducePow]; omega) 9 (by show (enc7 n).length = _; omega)
    simp only [Nat.reducePow] at h3
    omega
/-- Bytes that are a number's, and what is behind. -/
def Dec (l : List UInt8) (v : Nat) (rest : List UInt8) : Prop := v < 18446744073709551616 ∧ l = enc7 v ++ rest
theorem dec_uint {l rest : List UInt8} {v : Nat} (h : Dec l v rest) : uintE 10 0 0 0 l = (v, 0, rest) := by rw [h.2]; exact uintE_write v rest h.1
theorem dec_of_uint {l : List UInt8} (h : (uintE 10 0 0 0 l).2.1 = 0) : Dec l (uintE 10 0 0 0 l).1 (uintE 10 0 0 0 l).2.2 := by
  exact ⟨uintE_lt 0 l, uintE_read _ _ _ (Prod.ext rfl (Prod.ext h rfl))⟩
/-- What is said of a number: where it is one, it; where not, an error. -/
def TkR (l : List UInt8) (x k : Nat) (er : Int) : Prop := (er = 0 ∧ k ≤ l.length ∧ Dec l x (l.drop k)) ∨ (er ≠ 0 ∧ ∀ v rest, ¬ Dec l v rest)
theorem dec_at {l rest : List UInt8} {v : Nat} (h : Dec l v rest) (j : Nat) (hj : j < (enc7 v).length) : ∃ hl : j < l.length, (128 ≤ l[j].toNat ↔ j + 1 < (enc7 v).length) ∧ l[j].toNat % 128 = v / 128 ^ j % 128 := by
  obtain ⟨h1, rfl⟩ := h
  refine ⟨by rw [List.length_append]; omega, ?_⟩
  rw [List.getElem_append_left hj]
  exact enc7_at v h1 j hj
theorem dec_k {l rest : List UInt8} {v k : Nat} (h : Dec l v rest) (hb : ∀ j (hj : j < l.length), j < k → 128 ≤ l[j].toNat) (he : k = l.length ∨ 10 ≤ k ∨ ∃ hl : k < l.length, l[k].toNat < 128) : k + 1 = (enc7 v).length := by
  have h1 := (enc7_length v).1
  have h10 := enc7_ten v h.1
  have hl : l.length = (enc7 v).length + rest.length := by rw [h.2, List.length_append]
  have hlast := dec_at h ((enc7 v).length - 1) (by omega)
  obtain ⟨hl1, h2, _⟩ := hlast
  have hkm : k ≤ (enc7 v).length - 1 := by
    rcases Nat.lt_or_ge ((enc7 v).length - 1) k with h3 | h3
    · have h4 := hb _ hl1 h3
      have h5 := h2.1 h4
      omega
    · exact h3
  rcases Nat.lt_or_ge k ((enc7 v).length - 1) with h3 | h3
  · exfalso
    obtain ⟨hl2, h4, _⟩ := dec_at h k (by omega)
    rcases he with he | he | ⟨_, he⟩
    · omega
    · omega
    · have := h4.2 (by omega)
      omega
  · omega
theorem dec_last {l rest : List UInt8} {v : Nat} (h : Dec l v rest) (h10 : (enc7 v).length = 10) : ∃ hl : 9 < l.length, l[9].toNat ≤ 1 := by
  obtain ⟨hl, h1, h2⟩ := dec_at h 9 (by omega)
  refine ⟨hl, ?_⟩
  have h3 : ¬ 128 ≤ l[9].toNat := fun hc => by have := h1.1 hc; omega
  have h4 := h.1
  simp only [Nat.reducePow] at h2
  omega

theorem same01_any (ao bo : Option Addr) (n m c d : Nat) (a b : List UInt8) (w : World) (ha : a.length = n) (hb : b.length = m) (h1 : Sees w ao a) (h2 : Sees w bo b) :
    Calls Tryd.prog 73 #[.slice ao n c, .slice bo m d] w fun e w' => e = .returned (.bool (decide (a = b))) ∧ w' = w := by
  subst ha
  subst hb
  have H1 := Lib.hid h1
  have H2 := Lib.hid h2
  clear h1 h2
  have hd : (a == b) = decide (a = b) := by
    by_cases h : a = b
    · subst h
      simp
    · rw [decide_eq_false h, beq_eq_false_iff_ne]
      exact h
  obtain ⟨q, hq⟩ : ∃ q, (a == b) = q := ⟨_, rfl⟩
  have HQ : Hid (decide (a = b) = q) := Lib.hid (by rw [← hd, hq])
  clear hd
  go_enter Tryd.func73, Tryd.ntmps73
  go_wp2_with (first | (refine wpl_str (dst := some 6) _ ao _ c a rfl rfl H1.out (by rfl) ?_) | (refine wpl_str (dst := some 8) _ bo _ d b rfl rfl H2.out (by rfl) ?_) | fail)
  go_ret
  exact ⟨by rw [HQ.out]; rfl, rfl⟩
theorem take_word (x : Nat) (c : UInt8) :
    bits BinOp.or IntKind.u64 (IntKind.u64.wrap ((x : Int) * 128)) (IntKind.u64.wrap (bits BinOp.and IntKind.u8 ((c.toNat : Nat) : Int) 127)) = ((x % 144115188075855872 * 128 + c.toNat % 128 : Nat) : Int) := by
  have hc : c.toNat % 128 < 128 := Nat.mod_lt _ (by omega)
  rw [and127_all _ c.toNat_lt, IntWalk.u64_in ((c.toNat % 128 : Nat) : Int) (by omega), wrapU64]
  have e : ((x : Int) * 128) % 18446744073709551616 = ((x % 144115188075855872 * 128 : Nat) : Int) := by omega
  rw [e, bits_or_u64_nat _ _ (by omega) (by omega)]
  have := Nat.shiftLeft_add_eq_or_of_lt (show c.toNat % 128 < 2 ^ 7 by omega) (x % 144115188075855872)
  rw [Nat.shiftLeft_eq] at this
  rw [← this]
theorem div_step (v j : Nat) (c : UInt8) (hv : v < 18446744073709551616) (hc : c.toNat % 128 = v / 128 ^ j % 128) : v / 128 ^ (j + 1) % 144115188075855872 * 128 + c.toNat % 128 = v / 128 ^ j := by
  have h1 : v / 128 ^ (j + 1) = v / 128 ^ j / 128 := by rw [Nat.pow_succ, Nat.div_div_eq_div_mul]
  have h2 : v / 128 ^ j ≤ v := Nat.div_le_self _ _
  rw [h1, hc]
  obtain ⟨a, ha⟩ : ∃ a, v / 128 ^ j = a := ⟨_, rfl⟩
  rw [ha] at h2 ⊢
  clear h1 ha hc
  omega

set_option maxRecDepth 100000 in
set_option maxHeartbeats 4000000 in
theorem refTake_any (ao : Option Addr) (n c : Nat) (l : List UInt8) (w : World) (hl : l.length = n) (hnc : n ≤ c) (hc : c ≤ 9223372036854775807) (hs : Sees w ao l) :
    Calls Tryd.prog 67 #[.slice ao n c] w fun e w' => (∃ (x k : Nat) (er : Int), e = .returned (.tuple #[.int .u64 (x : Int), .int .i64 (k : Int), .int .i64 er]) ∧ TkR l x k er) ∧ Mod [] w w' := by
  have HS := Lib.hid hs
  have HL := Lib.hid hl
  clear hs hl
  go_enter Tryd.func67, Tryd.ntmps67
  go_wp2_with fail
  go_loopw [5] (fun s5 wr => ∃ k : Nat, k ≤ n ∧ k ≤ 10 ∧ s5 = .int .i64 (k : Int) ∧ (∀ j (hj : j < l.length), j < k → 128 ≤ l[j].toNat) ∧ w = wr) (fun s5 _ => n - (intOf s5).toNat)
  case atStart => exact ⟨0, Nat.zero_le _, by omega, rfl, fun j _ h => absurd h (by omega), rfl⟩
  case round =>
    obtain ⟨k, hkn, hk10, rfl, hb, rfl⟩ := hrel
    have HB := Lib.hid hb
    clear hb
    obtain ⟨q, hq⟩ : ∃ q, decide (k < 10 ∧ ∃ h : k < l.length, 128 ≤ l[k].toNat) = q := ⟨_, rfl⟩
    have HQ := Lib.hid hq
    clear hq
    go_upto_region 2 with (fail)
    go_cut [22] from 8 to 24 (fun s wx => s = .bool q ∧ w = wx)
    case first =>
      by_cases hlt : k < n
      case neg =>
        have D1 : decide (k < n) = false := decide_eq_false hlt
        have hqf : q = false := by rw [← HQ.out]; exact decide_eq_false (fun h => by have := h.2.1; have := HL.out; omega)
        subst hqf
        go_wp2_with fail
        go_meet
        exact ⟨rfl, rfl⟩
      have D1 : decide (k < n) = true := decide_eq_true hlt
      by_cases h10 : k < 10
      case neg =>
        have D2 : decide ((k : Int) < 10) = false := decide_eq_false (by omega)
        have hqf : q = false := by rw [← HQ.out]; exact decide_eq_false (fun h => h10 h.1)
        subst hqf
        go_wp2_with fail
        go_meet
        exact ⟨rfl, rfl⟩
      have D2 : decide ((k : Int) < 10) = true := decide_eq_true (by omega)
      have hkl : k < l.length := by rw [HL.out]; exact hlt
      obtain ⟨b, off, rfl, p⟩ := HS.out k hkl
      have hlt2 : (k : Int) < (n : Int) := by omega
      have D3 : decide ((128 : Int) ≤ (l[k].toNat : Int)) = q := by
        rw [← HQ.out]
        by_cases h : 128 ≤ l[k].toNat
        · rw [decide_eq_true (by omega), decide_eq_true ⟨h10, hkl, h⟩]
        · rw [decide_eq_false (by omega), decide_eq_false (fun h2 => h h2.2.2)]
      go_wp2_with fail
      go_meet
      exact ⟨rfl, rfl⟩
    case rest =>
    obtain ⟨rfl, rfl⟩ := hcut
    cases q
    case true =>
      have h := of_decide_eq_true HQ.out
      obtain ⟨h10, hkl, h128⟩ := h
      have hkn2 : k < n := by rw [← HL.out]; exact hkl
      go_wp2_with fail
      go_roundw
      case rel =>
        refine ⟨k + 1, by omega, by omega, by go_num, fun j hj hjk => ?_, by trivial⟩
        rcases Nat.lt_or_ge j k with h1 | h1
        · exact HB.out j hj h1
        · obtain rfl : j = k := by omega
          exact h128
      case measure => simp [intOf]; omega
    have HK : Hid (∀ v rest, Dec l v rest → k + 1 = (enc7 v).length) := Lib.hid (fun v rest hd => by
      refine dec_k hd HB.out ?_
      have h := of_decide_eq_false HQ.out
      rcases Nat.lt_or_ge k l.length with h1 | h1
      · rcases Nat.lt_or_ge k 10 with h2 | h2
        · exact .inr (.inr ⟨h1, by
            rcases Nat.lt_or_ge l[k].toNat 128 with h3 | h3
            · exact h3
            · exact absurd ⟨h2, h1, h3⟩ h⟩)
        · exact .inr (.inl h2)
      · exact .inl (by rw [HL.out] at h1 ⊢; omega))
    clear HQ HB
    obtain ⟨q, hq⟩ : ∃ q, decide (k = 10 ∨ (k = 9 ∧ ∃ h : 9 < l.length, 1 < l[9].toNat)) = q := ⟨_, rfl⟩
    have HQ := Lib.hid hq
    clear hq
    go_upto_region 4 with (fail)
    go_cut [42] from 25 to 43 (fun s wx => s = .bool q ∧ w = wx)
    case first =>
      by_cases h10 : k = 10
      case pos =>
        have D1 : ((k : Int) == 10) = true := by rw [beq_iff_eq]; omega
        have hqt : q = true := by rw [← HQ.out]; exact decide_eq_true (.inl h10)
        subst hqt
        go_wp2_with fail
        go_meet
        exact ⟨rfl, rfl⟩
      have D1 : ((k : Int) == 10) = false := by rw [beq_eq_false_iff_ne]; omega
      by_cases h9 : k = 9
      case neg =>
        have D2 : ((k : Int) == 9) = false := by rw [beq_eq_false_iff_ne]; omega
        have hqf : q = false := by rw [← HQ.out]; exact decide_eq_false (fun h => by rcases h with h | h; exact h10 h; exact h9 h.1)
        subst hqf
        go_wp2_with fail
        go_meet
        exact ⟨rfl, rfl⟩
      subst h9
      by_cases hlt : 9 < n
      case neg =>
        have D3 : decide ((9 : Nat) < n) = false := decide_eq_false hlt
        have D4 : decide ((9 : Int) < (n : Int)) = false := decide_eq_false (by omega)
        have hqf : q = false := by rw [← HQ.out]; exact decide_eq_false (fun h => by rcases h with h | h; exact h10 h; have := h.2.1; have := HL.out; omega)
        subst hqf
        go_wp2_with fail
        go_meet
        exact ⟨rfl, rfl⟩
      have D3 : decide ((9 : Nat) < n) = true := decide_eq_true hlt
      have D4 : decide ((9 : Int) < (n : Int)) = true := decide_eq_true (by omega)
      have hkl : 9 < l.length := by rw [HL.out]; exact hlt
      obtain ⟨b, off, rfl, p⟩ := HS.out 9 hkl
      have hlt2 : (9 : Int) < (n : Int) := by omega
      have D5 : decide ((1 : Int) < (l[9].toNat : Int)) = q := by
        rw [← HQ.out]
        by_cases h : 1 < l[9].toNat
        · rw [decide_eq_true (by omega), decide_eq_true (.inr ⟨rfl, hkl, h⟩)]
        · rw [decide_eq_false (by omega), decide_eq_false (fun h2 => by rcases h2 with h2 | h2; exact h10 h2; exact h h2.2.2)]
      go_wp2_with fail
      go_meet
      exact ⟨rfl, rfl⟩
    case rest =>
    obtain ⟨rfl, rfl⟩ := hcut
    cases q
    case true =>
      have HN : Hid (∀ v rest, ¬ Dec l v rest) := Lib.hid (fun v rest hd => by
        have h1 := HK.out v rest hd
        have h10 := enc7_ten v hd.1
        rcases of_decide_eq_true HQ.out with h | ⟨h, _, h2⟩
        · omega
        · obtain ⟨_, h3⟩ := dec_last hd (by omega)
          omega)
      clear HQ HK
      go_wp2_with fail
      ((try simp only [Exit.inBlock, Exit.then]); refine bodyPost_ret (by simp [results, Tryd.results67, go_sem, *]; try rfl) rfl ?_)
      exact ⟨⟨0, 0, 11, rfl, .inr ⟨by decide, HN.out⟩⟩, Mod.refl _ _⟩
    clear HQ
    by_cases hkn2 : k = n
    case pos =>
      have D : ((k : Int) == (n : Int)) = true := by rw [beq_iff_eq]; omega
      have HN : Hid (∀ v rest, ¬ Dec l v rest) := Lib.hid (fun v rest hd => by
        have h1 := HK.out v rest hd
        have h2 : l.length = (enc7 v).length + rest.length := by rw [hd.2, List.length_append]
        have := HL.out
        omega)
      clear HK
      go_wp2_with fail
      ((try simp only [Exit.inBlock, Exit.then]); refine bodyPost_ret (by simp [results, Tryd.results67, go_sem, *]; try rfl) rfl ?_)
      exact ⟨⟨0, 0, 10, rfl, .inr ⟨by decide, HN.out⟩⟩, Mod.refl _ _⟩
    have D : ((k : Int) == (n : Int)) = false := by rw [beq_eq_false_iff_ne]; omega
    have hkn3 : k < n := by omega
    go_wp2_with fail
    go_loopw [6, 7] (fun s6 s7 wr => ∃ x j : Nat, j ≤ k + 1 ∧ x < 18446744073709551616 ∧ s6 = .int .u64 (x : Int) ∧ s7 = .int .i64 ((j : Int) - 1) ∧ (∀ v rest, Dec l v rest → x = v / 128 ^ j) ∧ w = wr) (fun _ s7 _ => (intOf s7 + 1).toNat)
    case atStart => exact ⟨0, k + 1, by omega, by omega, rfl, by congr 1; omega, fun v rest hd => by rw [HK.out v rest hd, enc7_top v hd.1], rfl⟩
    case round =>
      obtain ⟨x, j, hj, hx, rfl, rfl, hv, rfl⟩ := hrel
      have HV := Lib.hid hv
      clear hv
      cases j with
      | succ j =>
        have e1 : (((j + 1 : Nat) : Int) - 1) = (j : Int) := by omega
        have D2 : decide ((0 : Int) ≤ (j : Int)) = true := decide_eq_true (by omega)
        have hjl : j < l.length := by rw [HL.out]; omega
        obtain ⟨b, off, rfl, p⟩ := HS.out j hjl
        have hlt2 : (j : Int) < (n : Int) := by omega
        have hlt3 : j < n := by omega
        have HT := Lib.hid (take_word x l[j])
        rw [e1]
        go_wp2_with fail
        go_roundw
        case rel =>
          refine ⟨x % 144115188075855872 * 128 + l[j].toNat % 128, j, by omega, by omega, ?_, by first | rfl | (congr 1; omega), fun v rest hd => ?_, by trivial⟩
          · rw [HT.out]
          · obtain ⟨_, _, hc⟩ := dec_at hd j (by have := HK.out v rest hd; omega)
            rw [HV.out v rest hd]
            exact div_step v j l[j] hd.1 hc
        case measure => simp [intOf] <;> omega
      | zero =>
        have D2 : decide ((0 : Int) ≤ ((0 : Nat) : Int) - 1) = false := rfl
        have HX : Hid (∀ v rest, Dec l v rest → x = v) := Lib.hid (fun v rest hd => by simpa using HV.out v rest hd)
        have HE := Lib.hid (enc7_length x)
        clear HV
        obtain ⟨b, off, rfl, -⟩ := HS.out k (by rw [HL.out]; exact hkn3)
        obtain ⟨k1, hk1⟩ : ∃ k1, k + 1 = k1 := ⟨_, rfl⟩
        have ew : IntKind.i64.wrap ((k : Int) + 1) = (k1 : Int) := by rw [IntWalk.i64_in _ (by omega)]; omega
        have hkc : (k1 : Int) ≤ (c : Int) := by omega
        have HK1 := Lib.hid hk1
        have HA : ∀ w', Mod [] w w' → Calls Tryd.prog 36 #[.int .u64 (x : Int)] w' (RetApp w' none (enc7 x)) := fun w' _ => refUint_any x w' hx
        have HU := Lib.hid HA
        have HS2 : Hid (Sees w (some ⟨b, off, none⟩) (l.take k1) ∧ (l.take k1).length = k1) := Lib.hid ⟨HS.out.take k1, by rw [List.length_take, HL.out]; omega⟩
        clear HA hk1
        go_upto_region 13 with (fail)
        refine rest_start [] 8 #[false, false, false, false, false, false, false, false] rfl (by kernel_rfl) (by kernel_rfl) ?_
        intro w1 m1
        refine rest_got (i := 0) (v := ?v1) rfl (by kernel_rfl) (by kernel_rfl) (by kernel_rfl) (fun _ _ _ h => h) (by rfl) ?y1 ?r1
        case y1 => (intro w9q hSwq; clear hSwq; go_simp; with_reducible rfl)
        try simp only [Act.put, List.setIfInBounds_toArray, List.set_cons_zero, List.set_cons_succ]
        refine rest_got (i := 2) (v := ?v2) rfl (by kernel_rfl) (by kernel_rfl) (by kernel_rfl) (fun _ _ _ h => h) (by rfl) ?y2 ?r2
        case y2 => (intro w9q hSwq; clear hSwq; go_simp; with_reducible rfl)
        try simp only [Act.put, List.setIfInBounds_toArray, List.set_cons_zero, List.set_cons_succ]
        refine rest_got (i := 3) (v := ?v3) rfl (by kernel_rfl) (by kernel_rfl) (by kernel_rfl) (fun _ _ _ h => h) (by rfl) ?y3 ?r3
        case y3 => (intro w9q hSwq; clear hSwq; go_simp; with_reducible rfl)
        try simp only [Act.put, List.setIfInBounds_toArray, List.set_cons_zero, List.set_cons_succ]
        refine rest_got (i := 4) (v := ?v4) rfl (by kernel_rfl) (by kernel_rfl) (by kernel_rfl) (fun _ _ _ h => h) (by rfl) ?y4 ?r4
        case y4 => (intro w9q hSwq; clear hSwq; go_simp; with_reducible rfl)
        try simp only [Act.put, List.setIfInBounds_toArray, List.set_cons_zero, List.set_cons_succ]
        refine rest_got (i := 5) (v := ?v5) rfl (by kernel_rfl) (by kernel_rfl) (by kernel_rfl) (fun _ _ _ h => h) (by rfl) ?y5 ?r5
        case y5 => (intro w9q hSwq; clear hSwq; go_simp; with_reducible rfl)
        try simp only [Act.put, List.setIfInBounds_toArray, List.set_cons_zero, List.set_cons_succ]
        refine rest_one (i := 1) (by kernel_rfl) rfl (by rfl) ?_
        have HC := Lib.hid (HU.out w1 m1)
        go_wp2_with fail
        refine HC.out.mono ?_
        rintro e w2 ⟨a2, n2, c2, rfl, k2, o2, m2, s2⟩
        go_wp2_with fail
        refine back_to (K1 := []) m2 (by simp) ?_
        have S2 := Lib.hid o2.sees
        have M2 := Lib.hid (m1.trans' m2)
        have HK2 := Lib.hid k2
        clear k2 o2 m2 s2 m1 HC
        
        refine rest_one (i := 6) (by kernel_rfl) rfl (by rfl) ?_
        have HC := Lib.hid (same01_any a2 (some ⟨b, off, none⟩) n2 k1 c2 c (enc7 x) (l.take k1) w2 HK2.out HS2.out.2 S2.out (HS2.out.1.mod0 M2.out))
        obtain ⟨q, hq⟩ : ∃ q, decide (enc7 x = l.take k1) = q := ⟨_, rfl⟩
        rw [hq] at HC
        have HQ := Lib.hid hq
        clear hq
        go_wp2_with fail
        refine HC.out.mono ?_
        rintro e w3 ⟨rfl, rfl⟩
        go_wp2_with fail
        refine back_to (K1 := []) (Mod.refl _ _) (by simp) ?_
        refine rest_got (i := 7) (v := ?v6) rfl (by kernel_rfl) (by kernel_rfl) (by kernel_rfl) (fun _ _ _ h => h) (by rfl) ?y6 ?r6
        case y6 => (intro w9q hSwq; clear hSwq; go_simp; with_reducible rfl)
        try simp only [Act.put, List.setIfInBounds_toArray, List.set_cons_zero, List.set_cons_succ]
        refine rest_done (by kernel_rfl) ?_ _
        cases q
        case false =>
          have HN : Hid (∀ v rest, ¬ Dec l v rest) := Lib.hid (fun v rest hd => by
            have h1 := HK.out v rest hd
            rw [HK1.out] at h1
            refine of_decide_eq_false HQ.out ?_
            rw [HX.out v rest hd, h1, hd.2, List.take_left])
          go_wp2_with fail
          ((try simp only [Exit.inBlock, Exit.then]); refine bodyPost_ret (by simp [results, Tryd.results67, go_sem, *]; try rfl) rfl ?_)
          exact ⟨⟨0, 0, 11, rfl, .inr ⟨by decide, HN.out⟩⟩, M2.out⟩
        case true =>
          have HD : Hid (k1 ≤ l.length ∧ Dec l x (l.drop k1)) := Lib.hid ⟨by have := HL.out; have := HK1.out; omega, hx, by rw [of_decide_eq_true HQ.out, List.take_append_drop]⟩
          go_wp2_with fail
          ((try simp only [Exit.inBlock, Exit.then]); refine bodyPost_ret (by simp [results, Tryd.results67, go_sem, *]; try rfl) rfl ?_)
          exact ⟨⟨x, k1, 0, rfl, .inl ⟨rfl, HD.out⟩⟩, M2.out⟩
end Go.Proofs.YtekdnljincbghaaDoor
