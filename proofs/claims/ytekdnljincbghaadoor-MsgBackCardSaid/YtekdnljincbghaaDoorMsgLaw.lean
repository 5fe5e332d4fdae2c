/- What is put is taken, and nothing else: plain laws of messages' bytes. -/
import Derived.Test.YtekdnljincbghaaDoorMsg11
import Derived.Test.YtekdnljincbghaaDoorCrcBurst
namespace Go.Proofs.YtekdnljincbghaaDoor
open Go Go.RowKit Go.Lib

/-- All is as it must be. -/
def Good (s : St) : Prop := s.e = 0 ∧ s.bad = false
/-- What f reads, enc writes. -/
def Reads {α : Type} (f : St → α × St) (enc : α → List UInt8) : Prop := ∀ s x s1, f s = (x, s1) → Good s1 → Good s ∧ s.l = enc x ++ s1.l
theorem uintE_errM {e : Int} {l : List UInt8} (h : e ≠ 0) : uintE 10 0 0 e l = (0, e, l) := by
  unfold uintE
  rw [if_neg h]
theorem uintE_good {e : Int} {l r : List UInt8} {n : Nat} (h : uintE 10 0 0 e l = (n, 0, r)) : e = 0 ∧ l = enc7 n ++ r := by
  by_cases he : e = 0
  · subst he
    exact ⟨rfl, uintE_read n l r h⟩
  · rw [uintE_errM he] at h
    simp only [Prod.mk.injEq] at h
    exact absurd h.2.1 he
theorem uint_reads : Reads St.uint enc7 := by
  intro s x s1 h hg
  obtain ⟨e, l, bad⟩ := s
  unfold St.uint at h
  dsimp only at h
  obtain ⟨⟨n, e2, l2⟩, hu⟩ : ∃ p, uintE 10 0 0 e l = p := ⟨_, rfl⟩
  rw [hu] at h
  dsimp only at h
  simp only [Prod.mk.injEq] at h
  obtain ⟨rfl, rfl⟩ := h
  obtain ⟨h1, h2⟩ := hg
  dsimp only at h1 h2
  subst h1
  obtain ⟨h3, h4⟩ := uintE_good hu
  exact ⟨⟨h3, h2⟩, h4⟩
theorem takeB_read {e : Int} {l l2 : List UInt8} {n r : Nat} (h : takeB e l = (n, r, 0, 0, l2)) : e = 0 ∧ l = enc7 n ++ (enc7 r ++ l2) ∧ r ≤ 6 := by
  unfold takeB at h
  obtain ⟨⟨n1, e1, l1⟩, hu1⟩ : ∃ p, uintE 10 0 0 e l = p := ⟨_, rfl⟩
  rw [hu1] at h
  dsimp only at h
  obtain ⟨⟨n2, e2, l3⟩, hu2⟩ : ∃ p, uintE 10 0 0 e1 l1 = p := ⟨_, rfl⟩
  rw [hu2] at h
  dsimp only at h
  by_cases h2 : e2 = 0
  · subst h2
    rw [if_neg (by simp)] at h
    by_cases h7 : 7 ≤ n2
    · rw [if_pos h7] at h
      simp only [Prod.mk.injEq] at h
      omega
    · rw [if_neg h7] at h
      simp only [Prod.mk.injEq] at h
      obtain ⟨rfl, rfl, _, _, rfl⟩ := h
      obtain ⟨h3, h4⟩ := uintE_good hu2
      subst h3
      obtain ⟨h5, h6⟩ := uintE_good hu1
      exact ⟨h5, by rw [h6, h4], by omega⟩
  · rw [if_pos h2] at h
    simp only [Prod.mk.injEq] at h
    exact absurd h.2.2.1 h2
theorem ball_reads : Reads St.ball (fun p => ballB p.1 (p.2 : Int)) := by
  intro s x s1 h hg
  obtain ⟨e, l, bad⟩ := s
  unfold St.ball at h
  dsimp only at h
  obtain ⟨⟨n, r, er, e2, l2⟩, hu⟩ : ∃ p, takeB e l = p := ⟨_, rfl⟩
  rw [hu] at h
  dsimp only at h
  simp only [Prod.mk.injEq] at h
  obtain ⟨rfl, rfl⟩ := h
  obtain ⟨h1, h2⟩ := hg
  dsimp only at h1 h2
  subst h1
  rw [Bool.or_eq_false_iff] at h2
  obtain ⟨h2, h3⟩ := h2
  have h3' : er = 0 := by simpa using h3
  subst h3'
  obtain ⟨h4, h5, _⟩ := takeB_read hu
  refine ⟨⟨h4, h2⟩, ?_⟩
  unfold ballB
  dsimp only
  rw [h5, Int.toNat_natCast, List.append_assoc]
theorem text_reads (lim : Int) : Reads (St.text lim) txL := by
  intro s x s1 h hg
  obtain ⟨e, l, bad⟩ := s
  unfold St.text textR at h
  dsimp only at h
  obtain ⟨⟨n, e2, l2⟩, hu⟩ : ∃ p, uintE 10 0 0 e l = p := ⟨_, rfl⟩
  rw [hu] at h
  dsimp only at h
  by_cases h2 : e2 = 0
  · subst h2
    obtain ⟨h3, h4⟩ := uintE_good hu
    rw [if_neg (by simp)] at h
    by_cases h5 : max lim 0 < (n : Int)
    · rw [if_pos h5] at h
      simp only [Prod.mk.injEq] at h
      obtain ⟨rfl, rfl⟩ := h
      exact absurd hg.1 (by show ¬ (11 : Int) = 0; decide)
    · rw [if_neg h5] at h
      by_cases h6 : l2.length < n
      · rw [if_pos h6] at h
        simp only [Prod.mk.injEq] at h
        obtain ⟨rfl, rfl⟩ := h
        exact absurd hg.1 (by show ¬ (10 : Int) = 0; decide)
      · rw [if_neg h6] at h
        simp only [Prod.mk.injEq] at h
        obtain ⟨rfl, rfl⟩ := h
        refine ⟨⟨h3, hg.2⟩, ?_⟩
        dsimp only
        unfold txL
        rw [List.length_take, Nat.min_eq_left (by omega), h4, List.append_assoc, List.take_append_drop]
  · rw [if_pos h2] at h
    simp only [Prod.mk.injEq] at h
    obtain ⟨rfl, rfl⟩ := h
    exact absurd hg.1 h2
theorem vote_reads (lim : Int) : Reads (St.vote lim) voteB := by
  intro s x s1 h hg
  unfold St.vote at h
  obtain ⟨⟨n1, sa⟩, hu1⟩ : ∃ p, s.uint = p := ⟨_, rfl⟩
  rw [hu1] at h
  dsimp only at h
  obtain ⟨⟨⟨n2, r2⟩, sb⟩, hu2⟩ : ∃ p, sa.ball = p := ⟨_, rfl⟩
  rw [hu2] at h
  dsimp only at h
  obtain ⟨⟨t, sc⟩, hu3⟩ : ∃ p, sb.text lim = p := ⟨_, rfl⟩
  rw [hu3] at h
  dsimp only at h
  simp only [Prod.mk.injEq] at h
  obtain ⟨rfl, rfl⟩ := h
  obtain ⟨g3, e3⟩ := text_reads lim _ _ _ hu3 hg
  obtain ⟨g2, e2⟩ := ball_reads _ _ _ hu2 g3
  obtain ⟨g1, e1⟩ := uint_reads _ _ _ hu1 g2
  refine ⟨g1, ?_⟩
  dsimp only at e2
  unfold voteB
  dsimp only
  rw [e1, e2, e3, List.append_assoc, List.append_assoc]
theorem rep_reads {α : Type} {f : St → α × St} {enc : α → List UInt8} (h : Reads f enc) (k : Nat) : ∀ (s : St) (l : List α) (s1 : St), St.rep f k s = (l, s1) → Good s1 → Good s ∧ s.l = l.flatMap enc ++ s1.l ∧ l.length = k := by
  induction k with
  | zero =>
    intro s l s1 h1 hg
    simp only [St.rep, Prod.mk.injEq] at h1
    obtain ⟨rfl, rfl⟩ := h1
    exact ⟨hg, by simp, rfl⟩
  | succ k ih =>
    intro s l s1 h1 hg
    rw [rep_succ] at h1
    obtain ⟨⟨l0, s0⟩, hr⟩ : ∃ p, St.rep f k s = p := ⟨_, rfl⟩
    rw [hr] at h1
    dsimp only at h1
    obtain ⟨⟨x, s2⟩, hx⟩ : ∃ p, f s0 = p := ⟨_, rfl⟩
    rw [hx] at h1
    dsimp only at h1
    simp only [Prod.mk.injEq] at h1
    obtain ⟨rfl, rfl⟩ := h1
    obtain ⟨g0, e0⟩ := h _ _ _ hx hg
    obtain ⟨g1, e1, n1⟩ := ih _ _ _ hr g0
    refine ⟨g1, ?_, by simp [n1]⟩
    rw [e1, e0, List.flatMap_append]
    simp
theorem rows_reads {α : Type} {f : St → α × St} {enc : α → List UInt8} (h : Reads f enc) (most : Nat) : Reads (St.rows most f) (fun l => enc7 l.length ++ l.flatMap enc) := by
  intro s l s1 h1 hg
  unfold St.rows at h1
  obtain ⟨⟨n, sa⟩, hu⟩ : ∃ p, s.uint = p := ⟨_, rfl⟩
  rw [hu] at h1
  dsimp only at h1
  split at h1
  · simp only [Prod.mk.injEq] at h1
    obtain ⟨rfl, rfl⟩ := h1
    exact absurd hg.2 (by simp)
  · obtain ⟨g0, e0, n0⟩ := rep_reads h n _ _ _ h1 hg
    obtain ⟨g1, e1⟩ := uint_reads _ _ _ hu g0
    refine ⟨g1, ?_⟩
    dsimp only
    rw [e1, e0, n0, List.append_assoc]
/-- The letters. -/
def Letter (c : UInt8) : Prop := c = 98 ∨ c = 99 ∨ c = 102 ∨ c = 108 ∨ c = 112 ∨ c = 115 ∨ c = 118
theorem setF_reads (lim : Int) (c : UInt8) (hc : Letter c) (x : Md × St) (d1 : Md) (s1 : St) (h : setF lim c x = (d1, s1)) (hg : Good s1) : Good x.2 ∧ x.2.l = fieldB d1 c ++ s1.l := by
  obtain ⟨d0, s⟩ := x
  rcases hc with rfl | rfl | rfl | rfl | rfl | rfl | rfl
  · unfold setF at h
    rw [if_pos rfl] at h
    simp only [Prod.mk.injEq] at h
    obtain ⟨rfl, h⟩ := h
    exact ball_reads s s.ball.1 s1 (by rw [← h]) hg
  · unfold setF at h
    rw [if_neg (by decide), if_pos rfl] at h
    simp only [Prod.mk.injEq] at h
    obtain ⟨rfl, h⟩ := h
    exact uint_reads s s.uint.1 s1 (by rw [← h]) hg
  · unfold setF at h
    rw [if_neg (by decide), if_neg (by decide), if_pos rfl] at h
    simp only [Prod.mk.injEq] at h
    obtain ⟨rfl, h⟩ := h
    exact uint_reads s s.uint.1 s1 (by rw [← h]) hg
  · unfold setF at h
    rw [if_neg (by decide), if_neg (by decide), if_neg (by decide), if_pos rfl] at h
    simp only [Prod.mk.injEq] at h
    obtain ⟨rfl, h⟩ := h
    exact uint_reads s s.uint.1 s1 (by rw [← h]) hg
  · unfold setF at h
    rw [if_neg (by decide), if_neg (by decide), if_neg (by decide), if_neg (by decide), if_pos rfl] at h
    simp only [Prod.mk.injEq] at h
    obtain ⟨rfl, h⟩ := h
    exact text_reads lim s (s.text lim).1 s1 (by rw [← h]) hg
  · unfold setF at h
    rw [if_neg (by decide), if_neg (by decide), if_neg (by decide), if_neg (by decide), if_neg (by decide), if_pos rfl] at h
    simp only [Prod.mk.injEq] at h
    obtain ⟨rfl, h⟩ := h
    exact rows_reads (text_reads lim) 16 s (s.rows 16 (St.text lim)).1 s1 (by rw [← h]) hg
  · unfold setF at h
    rw [if_neg (by decide), if_neg (by decide), if_neg (by decide), if_neg (by decide), if_neg (by decide), if_neg (by decide), if_pos rfl] at h
    simp only [Prod.mk.injEq] at h
    obtain ⟨rfl, h⟩ := h
    exact rows_reads (vote_reads lim) 256 s (s.rows 256 (St.vote lim)).1 s1 (by rw [← h]) hg
theorem setF_other (lim : Int) (c c' : UInt8) (hc : Letter c) (hc' : Letter c') (hne : c ≠ c') (x : Md × St) : fieldB (setF lim c' x).1 c = fieldB x.1 c := by
  rcases hc with rfl | rfl | rfl | rfl | rfl | rfl | rfl <;> rcases hc' with rfl | rfl | rfl | rfl | rfl | rfl | rfl <;> first | rfl | exact absurd rfl hne
theorem takeF_other (lim : Int) (c : UInt8) (hc : Letter c) : ∀ (l : List UInt8) (x : Md × St), (∀ c' ∈ l, Letter c') → c ∉ l → fieldB (takeF lim l x).1 c = fieldB x.1 c := by
  intro l
  induction l with
  | nil => intro x _ _; rfl
  | cons c' l ih =>
    intro x hl hn
    show fieldB (takeF lim l (setF lim c' x)).1 c = _
    rw [ih _ (fun y hy => hl y (by simp [hy])) (fun h => hn (by simp [h])), setF_other lim c c' hc (hl c' (by simp)) (fun h => hn (by simp [h]))]
theorem takeF_reads (lim : Int) : ∀ (l : List UInt8) (x : Md × St) (d : Md) (s : St), (∀ c ∈ l, Letter c) → l.Nodup → takeF lim l x = (d, s) → Good s → Good x.2 ∧ x.2.l = l.flatMap (fieldB d) ++ s.l := by
  intro l
  induction l with
  | nil =>
    intro x d s _ _ h hg
    have h' : x = (d, s) := h
    subst h'
    exact ⟨hg, rfl⟩
  | cons c l ih =>
    intro x d s hl hn h hg
    obtain ⟨⟨d1, s1⟩, h1⟩ : ∃ p, setF lim c x = p := ⟨_, rfl⟩
    have h2 : takeF lim l (d1, s1) = (d, s) := by rw [← h1]; exact h
    rw [List.nodup_cons] at hn
    obtain ⟨g1, e1⟩ := ih (d1, s1) d s (fun y hy => hl y (by simp [hy])) hn.2 h2 hg
    obtain ⟨g0, e0⟩ := setF_reads lim c (hl c (by simp)) x d1 s1 h1 g1
    refine ⟨g0, ?_⟩
    have e2 := takeF_other lim c (hl c (by simp)) l (d1, s1) (fun y hy => hl y (by simp [hy])) hn.1
    rw [h2] at e2
    dsimp only at e1 e2
    rw [e0, e1, List.flatMap_cons, e2, List.append_assoc]
theorem Fl_letter : ∀ k, k < 9 → ∀ c ∈ Fl k, Letter c := fun k hk => Fl_in k (by omega)
theorem Fl_nodup : ∀ k, k < 9 → (Fl k).Nodup := by decide
/-- Bytes that are taken are the message's. -/
theorem takeR_read (l : List UInt8) (d : Md) (h : takeR l = (0, d)) : l = msgB d ∧ MayM d ∧ NumD d := by
  unfold takeR at h
  by_cases h5 : l.length < 5
  · rw [if_pos h5] at h
    simp only [Prod.mk.injEq] at h
    exact absurd h.1 (by decide)
  rw [if_neg h5] at h
  by_cases hs : sum4 (l.drop 4) = l.take 4
  case neg =>
    rw [if_neg hs] at h
    simp only [Prod.mk.injEq] at h
    exact absurd h.1 (by decide)
  rw [if_pos hs] at h
  unfold insR at h
  obtain ⟨⟨kind, s1⟩, hu⟩ : ∃ p, St.uint ⟨0, l.drop 4, false⟩ = p := ⟨_, rfl⟩
  rw [hu] at h
  dsimp only at h
  by_cases hk : Known kind
  case neg =>
    rw [if_neg hk] at h
    simp only [Prod.mk.injEq] at h
    exact absurd h.1 (by decide)
  rw [if_pos hk] at h
  obtain ⟨⟨d2, s2⟩, ht⟩ : ∃ p, takeF (l.length : Int) (Fl kind) ((mz kind).d, s1) = p := ⟨_, rfl⟩
  rw [ht] at h
  dsimp only at h
  by_cases hc : s2.bad = false ∧ doneR s2.e s2.l = 0 ∧ MayM d2
  case neg =>
    rw [if_neg hc] at h
    simp only [Prod.mk.injEq] at h
    exact absurd h.1 (by decide)
  rw [if_pos hc] at h
  simp only [Prod.mk.injEq, true_and] at h
  subst h
  obtain ⟨hb, hd, hm⟩ := hc
  have hd' : s2.e = 0 ∧ s2.l = [] := by
    unfold doneR at hd
    split at hd
    · rename_i he
      split at hd
      · rename_i hl
        exact ⟨he, hl⟩
      · exact absurd hd (by decide)
    · rename_i he
      exact absurd hd he
  have hk9 : kind < 9 := by have := hk.2; omega
  obtain ⟨g1, e1⟩ := takeF_reads _ _ _ _ _ (Fl_letter kind hk9) (Fl_nodup kind hk9) ht ⟨hd'.1, hb⟩
  obtain ⟨-, e0⟩ := uint_reads _ _ _ hu g1
  dsimp only at e0 e1
  have hkd : d2.h.kind = kind := by
    have := takeF_kind (l.length : Int) (Fl kind) ((mz kind).d, s1)
    rw [ht] at this
    exact this
  have hin : l.drop 4 = insideB d2 := by
    unfold insideB
    rw [e0, e1, hd'.2, List.append_nil, hkd]
  refine ⟨?_, hm, ?_⟩
  · unfold msgB
    rw [← hin, hs, List.take_append_drop]
  · have := takeF_num (l.length : Int) (Fl kind) ((mz kind).d, s1) (by
      refine ⟨?_, by simp [mz, Mm.d, dV]⟩
      unfold WfH mz Mm.d
      dsimp only
      omega)
    rw [ht] at this
    exact this
/-- What says nothing. -/
theorem takeR_err (l : List UInt8) (h : (takeR l).1 ≠ 0) : (takeR l).2 = (mz 0).d := by
  unfold takeR at h ⊢
  by_cases h5 : l.length < 5
  · rw [if_pos h5]
  rw [if_neg h5] at h ⊢
  by_cases hs : sum4 (l.drop 4) = l.take 4
  case neg => rw [if_neg hs]
  rw [if_pos hs] at h ⊢
  unfold insR at h ⊢
  obtain ⟨⟨kind, s1⟩, hu⟩ : ∃ p, St.uint ⟨0, l.drop 4, false⟩ = p := ⟨_, rfl⟩
  rw [hu] at h ⊢
  dsimp only at h ⊢
  by_cases hk : Known kind
  case neg => rw [if_neg hk]
  rw [if_pos hk] at h ⊢
  obtain ⟨⟨d2, s2⟩, ht⟩ : ∃ p, takeF (l.length : Int) (Fl kind) ((mz kind).d, s1) = p := ⟨_, rfl⟩
  rw [ht] at h ⊢
  dsimp only at h ⊢
  by_cases hc : s2.bad = false ∧ doneR s2.e s2.l = 0 ∧ MayM d2
  case neg => rw [if_neg hc]
  rw [if_pos hc] at h
  exact absurd rfl h
end Go.Proofs.YtekdnljincbghaaDoor
