/- The plain laws of commands as bytes, two: what is read was written so; the errors. No walk. -/
import Derived.Test.YtaagfoeedngdjaaDoorCmdLaw
namespace Go.Proofs.YtaagfoeedngdjaaDoor
open Go Go.RowKit Go.Lib

def ErrOk (e : Int) : Prop := e = 0 ∨ e = 10 ∨ e = 11
theorem uintR_eok (k : Nat) : ∀ (i n : Nat) (l : List UInt8), ErrOk (uintR k i n l).2.1 := by
  induction k with
  | zero => intro i n l; exact .inl rfl
  | succ k ih =>
    intro i n l
    cases l with
    | nil => exact .inr (.inl rfl)
    | cons c r =>
      have e : uintR (k + 1) i n (c :: r) = if (i = 9 ∧ 1 < c.toNat) ∨ (0 < i ∧ c.toNat = 0) then (0, 11, r) else if c.toNat < 128 then (n + c.toNat % 128 * 2 ^ (7 * i), 0, r) else uintR k (i + 1) (n + c.toNat % 128 * 2 ^ (7 * i)) r := rfl
      rw [e]
      split
      · exact .inr (.inr rfl)
      · split
        · exact .inl rfl
        · exact ih _ _ _
theorem uintE_eok (e : Int) (l : List UInt8) (h : ErrOk e) : ErrOk (uintE 10 0 0 e l).2.1 := by
  unfold uintE
  split
  · exact uintR_eok _ _ _ _
  · exact h
theorem textR_eok (e : Int) (l : List UInt8) (h : ErrOk e) : ErrOk (textR 64 e l).2.1 := by
  unfold textR
  split
  · exact uintE_eok e l h
  · split
    · exact .inr (.inr rfl)
    · split
      · exact .inr (.inl rfl)
      · exact .inl rfl
theorem keysR_eok (k : Nat) (e : Int) (l : List UInt8) (h : ErrOk e) : ErrOk (keysR k e l).2.1 := by
  induction k with
  | zero => exact h
  | succ k ih => exact textR_eok _ _ ih
theorem takeR_eok (e : Int) (l : List UInt8) (h : ErrOk e) : ErrOk (takeR e l).2.1 := by
  unfold takeR
  dsimp only
  split
  · exact uintE_eok _ _ (textR_eok _ _ (textR_eok _ _ (keysR_eok _ _ _ (uintE_eok _ _ (uintE_eok _ _ (uintE_eok _ _ (uintE_eok _ _ h)))))))
  · exact uintE_eok _ _ (uintE_eok _ _ (uintE_eok _ _ (uintE_eok _ _ h)))
theorem parseL_eok (k : Nat) : ∀ (e : Int) (l : List UInt8) (x : List Cd × Int × List UInt8), ErrOk e → parseL k e l = some x → ErrOk x.2.1 := by
  induction k with
  | zero => intro e l x h hx; have : some ([], e, l) = some x := hx; injection this with this; subst this; exact h
  | succ k ih =>
    intro e l x h hx
    by_cases he : e = 0
    · subst he
      by_cases hb : (takeR 0 l).2.1 = 0 ∧ ¬ ((takeR 0 l).1.2 = true ∧ May (takeR 0 l).1.1)
      · rw [parseL_none k l hb] at hx; cases hx
      · rw [parseL_more k l hb] at hx
        cases hp : parseL k (takeR 0 l).2.1 (takeR 0 l).2.2 with
        | none => rw [hp] at hx; cases hx
        | some y =>
          rw [hp] at hx
          have : some ((takeR 0 l).1.1 :: y.1, y.2) = some x := hx
          injection this with this
          subst this
          exact ih _ _ y (takeR_eok 0 l h) hp
    · rw [parseL_stop _ _ _ he] at hx
      injection hx with hx
      subst hx
      exact h
/-- The errors of a batch; where there is one there are no commands. -/
theorem parseR_err (l : List UInt8) : (parseR l).2 = 0 ∨ ((parseR l).1 = [] ∧ ((parseR l).2 = 10 ∨ (parseR l).2 = 11)) := by
  have h0 := uintE_eok 0 l (.inl rfl)
  unfold parseR
  split
  · split
    · exact .inr ⟨rfl, .inr rfl⟩
    · rename_i cs e l' hp
      have he : ErrOk e := parseL_eok _ _ _ _ h0 hp
      by_cases h : e = 0
      · subst h
        simp only [ne_eq, not_true_eq_false, if_false]
        split
        · exact .inl rfl
        · exact .inr ⟨rfl, .inr rfl⟩
      · rw [if_pos h]
        exact .inr ⟨rfl, he.resolve_left h⟩
  · split
    · rename_i h
      exact .inr ⟨rfl, h0.resolve_left h⟩
    · exact .inr ⟨rfl, .inr rfl⟩

theorem uintE_back (e : Int) (l : List UInt8) (h : (uintE 10 0 0 e l).2.1 = 0) : e = 0 ∧ l = enc7 (uintE 10 0 0 e l).1 ++ (uintE 10 0 0 e l).2.2 := by
  have he : e = 0 := by
    by_cases he : e = 0
    · exact he
    · have : uintE 10 0 0 e l = (0, e, l) := if_neg he
      rw [this] at h
      exact h
  subst he
  refine ⟨rfl, uintE_read (uintE 10 0 0 0 l).1 l (uintE 10 0 0 0 l).2.2 ?_⟩
  exact Prod.ext rfl (Prod.ext h rfl)
theorem textR_back (e : Int) (l : List UInt8) (h : (textR 64 e l).2.1 = 0) : e = 0 ∧ l = txB ⟨(textR 64 e l).1.toArray⟩ ++ (textR 64 e l).2.2 := by
  have hu : (uintE 10 0 0 e l).2.1 = 0 := by
    by_cases hu : (uintE 10 0 0 e l).2.1 = 0
    · exact hu
    · have : textR 64 e l = ([], (uintE 10 0 0 e l).2.1, (uintE 10 0 0 e l).2.2) := if_pos hu
      rw [this] at h
      exact h
  obtain ⟨he, hl⟩ := uintE_back e l hu
  refine ⟨he, ?_⟩
  have hx : textR 64 e l = ((uintE 10 0 0 e l).2.2.take (uintE 10 0 0 e l).1, 0, (uintE 10 0 0 e l).2.2.drop (uintE 10 0 0 e l).1) ∧ (uintE 10 0 0 e l).1 ≤ (uintE 10 0 0 e l).2.2.length := by
    unfold textR at h ⊢
    rw [if_neg (by rw [hu]; simp)] at h ⊢
    by_cases h1 : max (64 : Int) 0 < ((uintE 10 0 0 e l).1 : Int)
    · rw [if_pos h1] at h; have h9 : (11 : Int) = 0 := h; exact absurd h9 (by decide)
    · rw [if_neg h1] at h ⊢
      by_cases h2 : (uintE 10 0 0 e l).2.2.length < (uintE 10 0 0 e l).1
      · rw [if_pos h2] at h; have h9 : (10 : Int) = 0 := h; exact absurd h9 (by decide)
      · rw [if_neg h2]
        exact ⟨rfl, by omega⟩
  obtain ⟨hx, hlen⟩ := hx
  rw [hx]
  dsimp only
  have hs : (⟨((uintE 10 0 0 e l).2.2.take (uintE 10 0 0 e l).1).toArray⟩ : ByteArray).size = (uintE 10 0 0 e l).1 := by
    show ((uintE 10 0 0 e l).2.2.take (uintE 10 0 0 e l).1).toArray.size = _
    rw [List.size_toArray, List.length_take]
    omega
  unfold txB
  rw [hs]
  show l = enc7 (uintE 10 0 0 e l).1 ++ (uintE 10 0 0 e l).2.2.take (uintE 10 0 0 e l).1 ++ (uintE 10 0 0 e l).2.2.drop (uintE 10 0 0 e l).1
  rw [List.append_assoc, List.take_append_drop]
  exact hl
theorem keysR_back (k : Nat) (e : Int) (l : List UInt8) (h : (keysR k e l).2.1 = 0) : e = 0 ∧ l = keysB (keysR k e l).1 ++ (keysR k e l).2.2 := by
  induction k with
  | zero => exact ⟨h, rfl⟩
  | succ k ih =>
    have h1 := textR_back (keysR k e l).2.1 (keysR k e l).2.2 h
    obtain ⟨h2, h3⟩ := ih h1.1
    refine ⟨h2, ?_⟩
    have e1 : keysB (keysR (k + 1) e l).1 = keysB (keysR k e l).1 ++ txB ⟨(textR 64 (keysR k e l).2.1 (keysR k e l).2.2).1.toArray⟩ := by
      show keysB ((keysR k e l).1 ++ [_]) = _
      unfold keysB
      rw [List.flatMap_append]
      simp
    rw [e1, List.append_assoc]
    show l = keysB (keysR k e l).1 ++ (txB ⟨(textR 64 (keysR k e l).2.1 (keysR k e l).2.2).1.toArray⟩ ++ (textR 64 (keysR k e l).2.1 (keysR k e l).2.2).2.2)
    rw [← h1.2]
    exact h3
/-- What is read was written so. -/
theorem takeR_back (e : Int) (l : List UInt8) (h : (takeR e l).2.1 = 0) (hg : (takeR e l).1.2 = true) : e = 0 ∧ l = oneB (takeR e l).1.1 ++ (takeR e l).2.2 := by
  unfold takeR at h hg ⊢
  dsimp only at h hg ⊢
  split at h
  · rename_i hs
    rw [if_pos hs]
    dsimp only at h ⊢
    obtain ⟨a8, b8⟩ := uintE_back _ _ h
    obtain ⟨a7, b7⟩ := textR_back _ _ a8
    obtain ⟨a6, b6⟩ := textR_back _ _ a7
    obtain ⟨a5, b5⟩ := keysR_back _ _ _ a6
    obtain ⟨a4, b4⟩ := uintE_back _ _ a5
    obtain ⟨a3, b3⟩ := uintE_back _ _ a4
    obtain ⟨a2, b2⟩ := uintE_back _ _ a3
    obtain ⟨a1, b1⟩ := uintE_back _ _ a2
    refine ⟨a1, ?_⟩
    unfold oneB
    dsimp only
    rw [zig_zag, keysR_len]
    simp only [List.append_assoc]
    rw [← b8, ← b7, ← b6, ← b5, ← b4, ← b3, ← b2]
    exact b1
  · rename_i hs
    rw [if_neg hs] at hg
    have h9 : false = true := hg
    exact absurd h9 (by decide)
theorem parseL_back (k : Nat) : ∀ (e : Int) (l : List UInt8) (cs : List Cd) (r : List UInt8), parseL k e l = some (cs, 0, r) → e = 0 ∧ cs.length = k ∧ (∀ c ∈ cs, May c) ∧ l = cs.flatMap oneB ++ r := by
  induction k with
  | zero =>
    intro e l cs r h
    have : some (([] : List Cd), e, l) = some (cs, 0, r) := h
    injection this with this
    injection this with h1 h2
    injection h2 with h2 h3
    subst h1 h2 h3
    exact ⟨rfl, rfl, fun c hc => absurd hc List.not_mem_nil, rfl⟩
  | succ k ih =>
    intro e l cs r h
    by_cases he : e = 0
    · subst he
      by_cases hb : (takeR 0 l).2.1 = 0 ∧ ¬ ((takeR 0 l).1.2 = true ∧ May (takeR 0 l).1.1)
      · rw [parseL_none k l hb] at h; cases h
      · rw [parseL_more k l hb] at h
        cases hp : parseL k (takeR 0 l).2.1 (takeR 0 l).2.2 with
        | none => rw [hp] at h; cases h
        | some y =>
          rw [hp] at h
          have : some ((takeR 0 l).1.1 :: y.1, y.2) = some (cs, 0, r) := h
          injection this with this
          injection this with h1 h2
          subst h1
          obtain ⟨ys, y2⟩ := y
          dsimp only at h2
          subst h2
          obtain ⟨c1, c2, c3, c4⟩ := ih _ _ _ _ hp
          have hg : (takeR 0 l).1.2 = true ∧ May (takeR 0 l).1.1 := Decidable.byContradiction fun hn => hb ⟨c1, hn⟩
          obtain ⟨-, d2⟩ := takeR_back 0 l c1 hg.1
          refine ⟨rfl, by rw [List.length_cons, c2], fun c hc => ?_, ?_⟩
          · rcases List.mem_cons.1 hc with rfl | hc
            · exact hg.2
            · exact c3 c hc
          · rw [List.flatMap_cons, List.append_assoc, ← c4]
            exact d2
    · rw [parseL_stop _ _ _ he] at h
      injection h with h
      injection h with _ h2
      injection h2 with h2 _
      exact absurd h2 he
/-- What is parsed was put together so. -/
theorem parseR_back (l : List UInt8) (h : (parseR l).2 = 0) : (parseR l).1.length ≤ 8 ∧ (∀ c ∈ (parseR l).1, May c) ∧ l = enc7 (parseR l).1.length ++ (parseR l).1.flatMap oneB := by
  unfold parseR at h ⊢
  split at h
  · rename_i h8
    rw [if_pos h8]
    split at h
    · exact absurd h (by decide)
    · rename_i cs e l' hp
      by_cases he : e = 0
      · subst he
        rw [if_neg (by simp)] at h
        by_cases hl : l' = []
        · subst hl
          obtain ⟨c1, c2, c3, c4⟩ := parseL_back _ _ _ _ _ hp
          obtain ⟨-, d2⟩ := uintE_back 0 l c1
          rw [List.append_nil] at c4
          simp only [ne_eq, not_true_eq_false, if_false, if_true]
          rw [c2]
          exact ⟨h8, c3, by rw [← c4]; exact d2⟩
        · rw [if_neg hl] at h; exact absurd h (by decide)
      · rw [if_pos he] at h; exact absurd h he
  · split at h
    · rename_i h2; exact absurd h h2
    · exact absurd h (by decide)
end Go.Proofs.YtaagfoeedngdjaaDoor
