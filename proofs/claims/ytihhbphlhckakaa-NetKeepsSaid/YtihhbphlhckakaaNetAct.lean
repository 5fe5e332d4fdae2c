/- What an act does, of the net and of the laws' reference. -/
import Derived.Test.YtihhbphlhckakaaNetOrder
import Derived.Test.YtihhbphlhckakaaRef18b
import Derived.Test.YtihhbphlhckakaaRef18e
namespace Go.Proofs.Ytihhbphlhckakaa
open Go Go.RowKit Go.Lib

/-- The answer, the letter that is taken, the row behind it. -/
def act (r : Nat) (k bit : Int) (L : List Lr) : Int × Lr × List Lr :=
  if 0 ≤ k ∧ k.toNat < L.length then
    if r = 1 then (0, L.getD k.toNat (0, 0, []), L.eraseIdx k.toNat)
    else if r = 2 then (0, (0, 0, []), L.eraseIdx k.toNat)
    else if r = 3 then (if L.length < 256 then (0, (0, 0, []), L ++ [L.getD k.toNat (0, 0, [])]) else (30, (0, 0, []), L))
    else if r = 4 then (0, (0, 0, []), L.eraseIdx k.toNat ++ [L.getD k.toNat (0, 0, [])])
    else if 0 ≤ bit ∧ bit.toNat / 8 < (L.getD k.toNat (0, 0, [])).2.2.length then
      (0, (0, 0, []), L.set k.toNat ((L.getD k.toNat (0, 0, [])).1, (L.getD k.toNat (0, 0, [])).2.1,
        (L.getD k.toNat (0, 0, [])).2.2.set (bit.toNat / 8) (flip8 ((L.getD k.toNat (0, 0, [])).2.2.getD (bit.toNat / 8) 0) (bit.toNat % 8))))
    else (1, (0, 0, []), L)
  else (1, (0, 0, []), L)

theorem act_out (r : Nat) (k bit : Int) (L : List Lr) (h : k < 0 ∨ (L.length : Int) ≤ k) : act r k bit L = (1, (0, 0, []), L) := by
  unfold act; rw [if_neg (by omega)]
theorem getD_at {L : List Lr} {k : Nat} (h : k < L.length) : L.getD k (0, 0, []) = L[k] := by
  simp [List.getD, List.getElem?_eq_getElem h]
theorem act_take (k : Nat) (bit : Int) (L : List Lr) (h : k < L.length) : act 1 (k : Int) bit L = (0, L[k], L.eraseIdx k) := by
  unfold act; rw [if_pos (by simp; omega), if_pos rfl, Int.toNat_natCast, getD_at h]
theorem act_drop (k : Nat) (bit : Int) (L : List Lr) (h : k < L.length) : act 2 (k : Int) bit L = (0, (0, 0, []), L.eraseIdx k) := by
  unfold act; rw [if_pos (by simp; omega), if_neg (by omega), if_pos rfl, Int.toNat_natCast]
theorem act_double (k : Nat) (bit : Int) (L : List Lr) (h : k < L.length) (hl : L.length < 256) : act 3 (k : Int) bit L = (0, (0, 0, []), L ++ [L[k]]) := by
  unfold act; rw [if_pos (by simp; omega), if_neg (by omega), if_neg (by omega), if_pos rfl, if_pos hl, Int.toNat_natCast, getD_at h]
theorem act_full (k : Nat) (bit : Int) (L : List Lr) (h : k < L.length) (hl : ¬ L.length < 256) : act 3 (k : Int) bit L = (30, (0, 0, []), L) := by
  unfold act; rw [if_pos (by simp; omega), if_neg (by omega), if_neg (by omega), if_pos rfl, if_neg hl]
theorem act_hold (k : Nat) (bit : Int) (L : List Lr) (h : k < L.length) : act 4 (k : Int) bit L = (0, (0, 0, []), L.eraseIdx k ++ [L[k]]) := by
  unfold act; rw [if_pos (by simp; omega), if_neg (by omega), if_neg (by omega), if_neg (by omega), if_pos rfl, Int.toNat_natCast, getD_at h]
theorem act_spoilbad (k : Nat) (bit : Int) (L : List Lr) (h : k < L.length) (hb : bit < 0 ∨ (L[k].2.2.length : Int) ≤ bit / 8) : act 5 (k : Int) bit L = (1, (0, 0, []), L) := by
  unfold act; rw [if_pos (by simp; omega), if_neg (by omega), if_neg (by omega), if_neg (by omega), if_neg (by omega), Int.toNat_natCast, getD_at h, if_neg (by omega)]
theorem act_spoil (k bit : Nat) (L : List Lr) (h : k < L.length) (hb : bit / 8 < L[k].2.2.length) :
    act 5 (k : Int) (bit : Int) L = (0, (0, 0, []), L.set k (L[k].1, L[k].2.1, L[k].2.2.set (bit / 8) (flip8 L[k].2.2[bit / 8] (bit % 8)))) := by
  unfold act; rw [if_pos (by simp; omega), if_neg (by omega), if_neg (by omega), if_neg (by omega), if_neg (by omega), Int.toNat_natCast, Int.toNat_natCast, getD_at h, if_pos (by omega)]
  simp [List.getD, List.getElem?_eq_getElem hb]
theorem act_cases (r : Nat) (k bit : Int) (L : List Lr) (h1 : 1 ≤ r) (h5 : r ≤ 5) :
    (k < 0 ∨ (L.length : Int) ≤ k) ∨ ∃ i : Nat, k = (i : Int) ∧ i < L.length ∧ (r = 1 ∨ r = 2 ∨ (r = 3 ∧ L.length < 256) ∨ (r = 3 ∧ ¬ L.length < 256) ∨ r = 4 ∨ (r = 5 ∧ (bit < 0 ∨ ((L.getD i (0, 0, [])).2.2.length : Int) ≤ bit / 8)) ∨ (r = 5 ∧ ∃ b : Nat, bit = (b : Int) ∧ b / 8 < (L.getD i (0, 0, [])).2.2.length)) := by
  by_cases hk : k < 0 ∨ (L.length : Int) ≤ k
  · exact .inl hk
  · refine .inr ⟨k.toNat, by omega, by omega, ?_⟩
    have : r = 1 ∨ r = 2 ∨ r = 3 ∨ r = 4 ∨ r = 5 := by omega
    rcases this with h | h | h | h | h
    · exact .inl h
    · exact .inr (.inl h)
    · by_cases hl : L.length < 256
      · exact .inr (.inr (.inl ⟨h, hl⟩))
      · exact .inr (.inr (.inr (.inl ⟨h, hl⟩)))
    · exact .inr (.inr (.inr (.inr (.inl h))))
    · by_cases hb : bit < 0 ∨ ((L.getD k.toNat (0, 0, [])).2.2.length : Int) ≤ bit / 8
      · exact .inr (.inr (.inr (.inr (.inr (.inl ⟨h, hb⟩)))))
      · exact .inr (.inr (.inr (.inr (.inr (.inr ⟨h, bit.toNat, by omega, by omega⟩)))))
theorem mem_set_of {L : List Lr} {k : Nat} {y x : Lr} (h : x ∈ L.set k y) : x ∈ L ∨ x = y := by
  rcases List.mem_or_eq_of_mem_set h with h | h
  · exact .inl h
  · exact .inr h
theorem act_keeps (r : Nat) (k bit : Int) (L : List Lr) (h1 : 1 ≤ r) (h5 : r ≤ 5) (hl : L.length ≤ 256) (m : Nat) (hz : ∀ x ∈ L, x.2.2.length ≤ m) :
    (act r k bit L).2.2.length ≤ 256 ∧ (∀ x ∈ (act r k bit L).2.2, x.2.2.length ≤ m) ∧ (act r k bit L).2.1.2.2.length ≤ m := by
  have hmem : ∀ (i : Nat) (h : i < L.length), L[i].2.2.length ≤ m := fun i h => hz _ (List.getElem_mem h)
  rcases act_cases r k bit L h1 h5 with h | ⟨i, rfl, hi, h⟩
  · rw [act_out _ _ _ _ h]; exact ⟨hl, hz, Nat.zero_le _⟩
  · rw [getD_at hi] at h
    rcases h with rfl | rfl | ⟨rfl, hc⟩ | ⟨rfl, hc⟩ | rfl | ⟨rfl, hb⟩ | ⟨rfl, b, rfl, hb⟩
    · rw [act_take _ _ _ hi]; exact ⟨by simp only [List.length_eraseIdx_of_lt hi]; omega, fun x hx => hz x (List.mem_of_mem_eraseIdx hx), hmem _ hi⟩
    · rw [act_drop _ _ _ hi]; exact ⟨by simp only [List.length_eraseIdx_of_lt hi]; omega, fun x hx => hz x (List.mem_of_mem_eraseIdx hx), Nat.zero_le _⟩
    · rw [act_double _ _ _ hi hc]
      refine ⟨by simp; omega, fun x hx => ?_, Nat.zero_le _⟩
      rcases List.mem_append.mp hx with hx | hx
      · exact hz x hx
      · simp at hx; subst hx; exact hmem _ hi
    · rw [act_full _ _ _ hi hc]; exact ⟨hl, hz, Nat.zero_le _⟩
    · rw [act_hold _ _ _ hi]
      refine ⟨by simp only [List.length_append, List.length_eraseIdx_of_lt hi, List.length_cons, List.length_nil]; omega, fun x hx => ?_, Nat.zero_le _⟩
      rcases List.mem_append.mp hx with hx | hx
      · exact hz x (List.mem_of_mem_eraseIdx hx)
      · simp at hx; subst hx; exact hmem _ hi
    · rw [act_spoilbad _ _ _ hi hb]; exact ⟨hl, hz, Nat.zero_le _⟩
    · rw [act_spoil _ _ _ hi hb]
      refine ⟨by simpa using hl, fun x hx => ?_, Nat.zero_le _⟩
      rcases mem_set_of hx with hx | hx
      · exact hz x hx
      · subst hx; simp; exact hmem _ hi

theorem refdo_all (a : Option Addr) (c : Nat) (L : List Lr) (r : Nat) (k bit : Int) (w : World) (h : OwnR w a c L) (h1 : 1 ≤ r) (h5 : r ≤ 5) (hl : L.length ≤ 256) (hz : ∀ x ∈ L, x.2.2.length ≤ 1000) (hmx : bit ≤ 9223372036854775807) :
    Calls Try.prog 31 #[.slice a L.length c, .int .u8 (r : Int), .int .i64 k, .int .i64 bit] w fun e w' => ∃ a' c',
      e = .returned (.tuple #[.slice a' (act r k bit L).2.2.length c', .agg #[.int .i64 (act r k bit L).2.1.1, .int .i64 (act r k bit L).2.1.2.1, strV (act r k bit L).2.1.2.2], .int .i64 (act r k bit L).1]) ∧
      OwnR w' a' c' (act r k bit L).2.2 ∧ Mod [] w w' ∧ ∀ j, j ∈ blk a' → j ∈ blk a ∨ w.heap.size ≤ j := by
  have hmem : ∀ (i : Nat) (h : i < L.length), L[i].2.2.length ≤ 1000 := fun i h => hz _ (List.getElem_mem h)
  rcases act_cases r k bit L h1 h5 with hk | ⟨i, rfl, hi, hc⟩
  · rw [act_out _ _ _ _ hk]
    refine (refdo_out a L.length c r k bit w hk).mono ?_
    rintro e w1 ⟨rfl, m⟩
    exact ⟨a, c, rfl, Own.mod0 h m, m, fun j hj => .inl hj⟩
  · rw [getD_at hi] at hc
    obtain ⟨⟨fr, to, bs⟩, hx⟩ : ∃ x, L[i] = x := ⟨_, rfl⟩
    have hbs : bs.length ≤ 1000 := by have := hmem i hi; rw [hx] at this; exact this
    rcases hc with rfl | rfl | ⟨rfl, hc⟩ | ⟨rfl, hc⟩ | rfl | ⟨rfl, hb⟩ | ⟨rfl, b, rfl, hb⟩
    · rw [act_take _ _ _ hi, hx]
      refine (refdo_take a c L i bit w h hi (by omega) fr to bs hx).mono ?_
      rintro e w1 ⟨a', c', rfl, o, m, f⟩
      exact ⟨a', c', rfl, o, m, fun j hj => .inr (f j hj)⟩
    · rw [act_drop _ _ _ hi]
      refine (refdo_drop a c L i bit w h hi (by omega) fr to bs hx).mono ?_
      rintro e w1 ⟨a', c', rfl, o, m, f⟩
      exact ⟨a', c', rfl, o, m, fun j hj => .inr (f j hj)⟩
    · rw [act_double _ _ _ hi hc, hx]
      refine (refdo_double a c L i bit w h hi hc fr to bs hx).mono ?_
      rintro e w1 ⟨a', c', rfl, o, m, f⟩
      exact ⟨a', c', rfl, o, m, fun j hj => .inr (f j hj)⟩
    · rw [act_full _ _ _ hi hc]
      refine (refdo_full a c L i bit w h hi (by omega) fr to bs hx).mono ?_
      rintro e w1 ⟨rfl, m⟩
      exact ⟨a, c, rfl, Own.mod0 h m, m, fun j hj => .inl hj⟩
    · rw [act_hold _ _ _ hi, hx]
      refine (refdo_hold a c L i bit w h hi (by omega) fr to bs hx).mono ?_
      rintro e w1 ⟨a', c', rfl, o, m, f⟩
      exact ⟨a', c', rfl, o, m, fun j hj => .inr (f j hj)⟩
    · rw [act_spoilbad _ _ _ hi hb]
      rw [hx] at hb
      refine (refdo_spoilbad a c L i bit w h hi fr to bs hx hb hmx).mono ?_
      rintro e w1 ⟨rfl, m⟩
      exact ⟨a, c, rfl, Own.mod0 h m, m, fun j hj => .inl hj⟩
    · rw [act_spoil _ _ _ hi hb]
      simp only [hx] at hb ⊢
      refine (refdo_spoilok a c L i b (b / 8) (b % 8) w h hi (by omega) fr to bs hx rfl rfl hb (by omega)).mono ?_
      rintro e w1 ⟨a', c', rfl, o, m, f⟩
      exact ⟨a', c', by simp [strV], o, m, fun j hj => .inr (f j hj)⟩

theorem Moved.same {w w' : World} {g : Nat} {F : List Nat} {L : List (Int × Int × List UInt8)} (h : NetW w g F L) (m : Mod [] w w') : Moved w w' g F L :=
  ⟨F, h.mod0 m, m.weaken (by simp), fun _ hk => .inl hk⟩

theorem take_all (g : Nat) (F : List Nat) (L : List Lr) (k bit : Int) (w : World) (h : NetW w g F L) (hl : L.length ≤ 256) :
    Calls Try.prog 14 #[.pointer (some ⟨g, 0, none⟩), .int .i64 k] w fun e w' => ∃ ao c,
      e = .returned (.tuple #[.agg #[.int .i64 (act 1 k bit L).2.1.1, .int .i64 (act 1 k bit L).2.1.2.1, .slice ao (act 1 k bit L).2.1.2.2.length c], .int .i64 (act 1 k bit L).1]) ∧
      Sees w' ao (act 1 k bit L).2.1.2.2 ∧ (∀ b off, ao = some ⟨b, off, none⟩ → b ∈ F) ∧ Moved w w' g F (act 1 k bit L).2.2 := by
  by_cases hk : k < 0 ∨ (L.length : Int) ≤ k
  · rw [act_out _ _ _ _ hk]
    refine (take_outw g F L k w h hk).mono ?_
    rintro e w1 ⟨rfl, m⟩
    exact ⟨none, 0, rfl, fun j hj => absurd hj (Nat.not_lt_zero _), fun b off hb => (by cases hb), Moved.same h m⟩
  · obtain ⟨i, rfl⟩ : ∃ i : Nat, k = (i : Int) := ⟨k.toNat, by omega⟩
    have hi : i < L.length := by omega
    rw [act_take _ _ _ hi]
    refine (take_w g F L i w h hi (by omega)).mono ?_
    rintro e w1 ⟨ao, c, rfl, o, F', h1, m1, f1, d1⟩
    exact ⟨ao, c, rfl, o.sees, fun b off hb => (d1 b (by subst hb; simp [blk])).1, F', h1, m1, f1⟩
theorem drop_all (g : Nat) (F : List Nat) (L : List Lr) (k bit : Int) (w : World) (h : NetW w g F L) (hl : L.length ≤ 256) :
    Calls Try.prog 18 #[.pointer (some ⟨g, 0, none⟩), .int .i64 k] w fun e w' =>
      e = .returned (.int .i64 (act 2 k bit L).1) ∧ (act 2 k bit L).2.1 = (0, 0, []) ∧ Moved w w' g F (act 2 k bit L).2.2 := by
  by_cases hk : k < 0 ∨ (L.length : Int) ≤ k
  · rw [act_out _ _ _ _ hk]
    refine (drop_outw g F L k w h hk).mono ?_
    rintro e w1 ⟨rfl, m⟩
    exact ⟨rfl, rfl, Moved.same h m⟩
  · obtain ⟨i, rfl⟩ : ∃ i : Nat, k = (i : Int) := ⟨k.toNat, by omega⟩
    have hi : i < L.length := by omega
    rw [act_drop _ _ _ hi]
    refine (drop_w g F L i w h hi (by omega)).mono ?_
    rintro e w1 ⟨rfl, m⟩
    exact ⟨rfl, rfl, m⟩
theorem double_all (g : Nat) (F : List Nat) (L : List Lr) (k bit : Int) (w : World) (h : NetW w g F L) (hl : L.length ≤ 256) (hz : ∀ x ∈ L, x.2.2.length ≤ 1000) :
    Calls Try.prog 11 #[.pointer (some ⟨g, 0, none⟩), .int .i64 k] w fun e w' =>
      e = .returned (.int .i64 (act 3 k bit L).1) ∧ (act 3 k bit L).2.1 = (0, 0, []) ∧ Moved w w' g F (act 3 k bit L).2.2 := by
  by_cases hk : k < 0 ∨ (L.length : Int) ≤ k
  · rw [act_out _ _ _ _ hk]
    obtain ⟨ra, rc, l, h1, rfl, rfl⟩ := id h
    refine (double_out g ra rc l k w h1 (by simpa using hk)).mono ?_
    rintro e w1 ⟨rfl, m⟩
    exact ⟨rfl, rfl, Moved.same h m⟩
  · obtain ⟨i, rfl⟩ : ∃ i : Nat, k = (i : Int) := ⟨k.toNat, by omega⟩
    have hi : i < L.length := by omega
    have hzi := hz _ (List.getElem_mem hi)
    by_cases hc : L.length < 256
    · rw [act_double _ _ _ hi hc]
      refine (double_w g F L i w h hi hc (by omega)).mono ?_
      rintro e w1 ⟨rfl, m⟩
      exact ⟨rfl, rfl, m⟩
    · rw [act_full _ _ _ hi hc]
      refine (double_fullw g F L i w h hi (by omega) (by omega)).mono ?_
      rintro e w1 ⟨rfl, m⟩
      exact ⟨rfl, rfl, Moved.same h m⟩
theorem hold_all (g : Nat) (F : List Nat) (L : List Lr) (k bit : Int) (w : World) (h : NetW w g F L) (hl : L.length ≤ 256) :
    Calls Try.prog 19 #[.pointer (some ⟨g, 0, none⟩), .int .i64 k] w fun e w' =>
      e = .returned (.int .i64 (act 4 k bit L).1) ∧ (act 4 k bit L).2.1 = (0, 0, []) ∧ Moved w w' g F (act 4 k bit L).2.2 := by
  by_cases hk : k < 0 ∨ (L.length : Int) ≤ k
  · rw [act_out _ _ _ _ hk]
    obtain ⟨ra, rc, l, h1, rfl, rfl⟩ := id h
    refine (hold_out g ra rc l k w h1 (by simpa using hk)).mono ?_
    rintro e w1 ⟨rfl, m⟩
    exact ⟨rfl, rfl, Moved.same h m⟩
  · obtain ⟨i, rfl⟩ : ∃ i : Nat, k = (i : Int) := ⟨k.toNat, by omega⟩
    have hi : i < L.length := by omega
    rw [act_hold _ _ _ hi]
    refine (hold_w g F L i w h hi (by omega)).mono ?_
    rintro e w1 ⟨rfl, m⟩
    exact ⟨rfl, rfl, m⟩
theorem spoil_all (g : Nat) (F : List Nat) (L : List Lr) (k bit : Int) (w : World) (h : NetW w g F L) (hl : L.length ≤ 256) (hz : ∀ x ∈ L, x.2.2.length ≤ 1000) (hmx : bit ≤ 9223372036854775807) :
    Calls Try.prog 13 #[.pointer (some ⟨g, 0, none⟩), .int .i64 k, .int .i64 bit] w fun e w' =>
      e = .returned (.int .i64 (act 5 k bit L).1) ∧ (act 5 k bit L).2.1 = (0, 0, []) ∧ Moved w w' g F (act 5 k bit L).2.2 := by
  by_cases hk : k < 0 ∨ (L.length : Int) ≤ k
  · rw [act_out _ _ _ _ hk]
    obtain ⟨ra, rc, l, h1, rfl, rfl⟩ := id h
    refine (spoil_out g ra rc l k bit w h1 (by simpa using hk)).mono ?_
    rintro e w1 ⟨rfl, m⟩
    exact ⟨rfl, rfl, Moved.same h m⟩
  · obtain ⟨i, rfl⟩ : ∃ i : Nat, k = (i : Int) := ⟨k.toNat, by omega⟩
    have hi : i < L.length := by omega
    have hzi := hz _ (List.getElem_mem hi)
    by_cases hb : bit < 0 ∨ (L[i].2.2.length : Int) ≤ bit / 8
    · rw [act_spoilbad _ _ _ hi hb]
      refine (spoil_badw g F L i bit w h hi hb hmx).mono ?_
      rintro e w1 ⟨rfl, m⟩
      exact ⟨rfl, rfl, Moved.same h m⟩
    · obtain ⟨b, rfl⟩ : ∃ b : Nat, bit = (b : Int) := ⟨bit.toNat, by omega⟩
      have hb' : b / 8 < L[i].2.2.length := by omega
      rw [act_spoil _ _ _ hi hb']
      refine (spoil_w g F L i b (b / 8) (b % 8) w h hi rfl rfl hb' (by omega)).mono ?_
      rintro e w1 ⟨rfl, m⟩
      exact ⟨rfl, rfl, m⟩
end Go.Proofs.Ytihhbphlhckakaa
