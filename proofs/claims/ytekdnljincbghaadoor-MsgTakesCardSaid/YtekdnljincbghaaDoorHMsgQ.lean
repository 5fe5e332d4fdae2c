/- What the reference reads as a message, in plain Lean, and that it is what the program reads. -/
import Derived.Test.YtekdnljincbghaaDoorHMsgT2
namespace Go.Proofs.YtekdnljincbghaaDoor
open Go Go.RowKit Go.Lib

/-- So many, as long as all is as it must be. -/
def RS.rep {α : Type} (f : RS → α × RS) : Nat → RS → List α × RS
  | 0, s => ([], s)
  | k + 1, s => if s.ok = true then ((f s).1 :: (RS.rep f k (f s).2).1, (RS.rep f k (f s).2).2) else ([], s)
def RS.rows {α : Type} (f : RS → α × RS) (s : RS) : List α × RS := RS.rep f s.num.1 s.num.2
def RS.vote (s : RS) : (Vd × List UInt8) × RS := ((⟨s.num.1, s.num.2.ball.1.1, (s.num.2.ball.1.2 : Int)⟩, s.num.2.ball.2.text.1), s.num.2.ball.2.text.2)
theorem RS.rep_more {α : Type} (f : RS → α × RS) (k : Nat) (s : RS) (h : s.ok = true) : RS.rep f (k + 1) s = ((f s).1 :: (RS.rep f k (f s).2).1, (RS.rep f k (f s).2).2) := if_pos h
theorem RS.rep_stop {α : Type} (f : RS → α × RS) (k : Nat) (s : RS) (h : s.ok = false ∨ k = 0) : RS.rep f k s = ([], s) := by
  rcases h with h | h
  · cases k with
    | zero => rfl
    | succ k => exact if_neg (by rw [h]; decide)
  · subst h; rfl
/-- A field that is read, by its letter. -/
def setQ (c : UInt8) (x : Md × RS) : Md × RS :=
  if c = 98 then (⟨⟨x.1.h.kind, x.2.ball.1.1, (x.2.ball.1.2 : Int), x.1.h.first, x.1.h.last, x.1.h.commit⟩, x.1.votes, x.1.batches, x.1.snap⟩, x.2.ball.2)
  else if c = 99 then (⟨⟨x.1.h.kind, x.1.h.bn, x.1.h.br, x.1.h.first, x.1.h.last, x.2.num.1⟩, x.1.votes, x.1.batches, x.1.snap⟩, x.2.num.2)
  else if c = 102 then (⟨⟨x.1.h.kind, x.1.h.bn, x.1.h.br, x.2.num.1, x.1.h.last, x.1.h.commit⟩, x.1.votes, x.1.batches, x.1.snap⟩, x.2.num.2)
  else if c = 108 then (⟨⟨x.1.h.kind, x.1.h.bn, x.1.h.br, x.1.h.first, x.2.num.1, x.1.h.commit⟩, x.1.votes, x.1.batches, x.1.snap⟩, x.2.num.2)
  else if c = 112 then (⟨x.1.h, x.1.votes, x.1.batches, x.2.text.1⟩, x.2.text.2)
  else if c = 115 then (⟨x.1.h, x.1.votes, x.1.batches ++ (x.2.rows RS.text).1, x.1.snap⟩, (x.2.rows RS.text).2)
  else if c = 118 then (⟨x.1.h, x.1.votes ++ (x.2.rows RS.vote).1, x.1.batches, x.1.snap⟩, (x.2.rows RS.vote).2)
  else x
def takeQF (l : List UInt8) (x : Md × RS) : Md × RS := l.foldl (fun x c => setQ c x) x
theorem takeQF_take (l : List UInt8) (k : Nat) (hk : k < l.length) (x : Md × RS) : takeQF (l.take (k + 1)) x = setQ l[k] (takeQF (l.take k) x) := by
  unfold takeQF
  rw [List.take_succ_eq_append_getElem hk, List.foldl_append]
  rfl
/-- What is behind the sum. -/
def insQ (l : List UInt8) : Int × Md :=
  if 8 < (RS.num ⟨l, true⟩).1 then (11, (mz 0).d)
  else if (takeQF (Fl (RS.num ⟨l, true⟩).1) ((mz (RS.num ⟨l, true⟩).1).d, (RS.num ⟨l, true⟩).2)).2.ok = true ∧ (takeQF (Fl (RS.num ⟨l, true⟩).1) ((mz (RS.num ⟨l, true⟩).1).d, (RS.num ⟨l, true⟩).2)).2.l = [] ∧ MayM (takeQF (Fl (RS.num ⟨l, true⟩).1) ((mz (RS.num ⟨l, true⟩).1).d, (RS.num ⟨l, true⟩).2)).1
    then (0, (takeQF (Fl (RS.num ⟨l, true⟩).1) ((mz (RS.num ⟨l, true⟩).1).d, (RS.num ⟨l, true⟩).2)).1) else (11, (mz 0).d)
def takeQ (l : List UInt8) : Int × Md := if l.length < 5 then (10, (mz 0).d) else if sum4 (l.drop 4) = l.take 4 then insQ (l.drop 4) else (12, (mz 0).d)

/-- What f reads, enc writes. -/
def QReads {α : Type} (f : RS → α × RS) (enc : α → List UInt8) : Prop := ∀ s x s1, f s = (x, s1) → s1.ok = true → s.ok = true ∧ s.l = enc x ++ s1.l
theorem QReads.at' {α : Type} {f : RS → α × RS} {enc : α → List UInt8} (h : QReads f enc) (s : RS) (hg : (f s).2.ok = true) : s.ok = true ∧ s.l = enc (f s).1 ++ (f s).2.l := h s (f s).1 (f s).2 rfl hg
theorem qnum_reads : QReads RS.num enc7 := by
  intro s x s1 h hg
  unfold RS.num at h
  split at h
  · rename_i hc
    simp only [Prod.mk.injEq] at h
    obtain ⟨rfl, rfl⟩ := h
    exact ⟨hc.1, (dec_of_uint hc.2).2⟩
  · simp only [Prod.mk.injEq] at h
    obtain ⟨rfl, rfl⟩ := h
    cases hg
theorem qball_reads : QReads RS.ball (fun p => ballB p.1 (p.2 : Int)) := by
  intro s x s1 h hg
  unfold RS.ball at h
  split at h
  · simp only [Prod.mk.injEq] at h
    obtain ⟨rfl, rfl⟩ := h
    cases hg
  · simp only [Prod.mk.injEq] at h
    obtain ⟨rfl, rfl⟩ := h
    obtain ⟨g1, e1⟩ := qnum_reads.at' s.num.2 hg
    obtain ⟨g0, e0⟩ := qnum_reads.at' s g1
    refine ⟨g0, ?_⟩
    unfold ballB
    dsimp only
    rw [Int.toNat_natCast, List.append_assoc, ← e1]
    exact e0
theorem qtext_reads : QReads RS.text txL := by
  intro s x s1 h hg
  unfold RS.text at h
  split at h
  · rename_i hc
    simp only [Prod.mk.injEq] at h
    obtain ⟨rfl, rfl⟩ := h
    obtain ⟨g0, e0⟩ := qnum_reads.at' s hc.1
    refine ⟨g0, ?_⟩
    unfold txL
    dsimp only
    rw [List.length_take, Nat.min_eq_left hc.2, List.append_assoc, List.take_append_drop]
    exact e0
  · simp only [Prod.mk.injEq] at h
    obtain ⟨rfl, rfl⟩ := h
    cases hg
theorem qvote_reads : QReads RS.vote voteB := by
  intro s x s1 h hg
  unfold RS.vote at h
  simp only [Prod.mk.injEq] at h
  obtain ⟨rfl, rfl⟩ := h
  obtain ⟨g2, e2⟩ := qtext_reads.at' s.num.2.ball.2 hg
  obtain ⟨g1, e1⟩ := qball_reads.at' s.num.2 g2
  obtain ⟨g0, e0⟩ := qnum_reads.at' s g1
  refine ⟨g0, ?_⟩
  unfold voteB
  dsimp only at e1 ⊢
  rw [List.append_assoc, List.append_assoc, ← e2, ← e1]
  exact e0
theorem qrep_reads {α : Type} {f : RS → α × RS} {enc : α → List UInt8} (h : QReads f enc) (k : Nat) : ∀ (s s1 : RS) (l : List α), RS.rep f k s = (l, s1) → s1.ok = true → s.ok = true ∧ s.l = l.flatMap enc ++ s1.l ∧ l.length = k := by
  induction k with
  | zero =>
    intro s s1 l h1 hg
    simp only [RS.rep, Prod.mk.injEq] at h1
    obtain ⟨rfl, rfl⟩ := h1
    exact ⟨hg, by simp, rfl⟩
  | succ k ih =>
    intro s s1 l h1 hg
    unfold RS.rep at h1
    split at h1
    · simp only [Prod.mk.injEq] at h1
      obtain ⟨rfl, rfl⟩ := h1
      obtain ⟨g1, e1, n1⟩ := ih (f s).2 _ _ rfl hg
      obtain ⟨g0, e0⟩ := h.at' s g1
      refine ⟨g0, ?_, by simp [n1]⟩
      rw [List.flatMap_cons, List.append_assoc, ← e1]
      exact e0
    · rename_i hc
      simp only [Prod.mk.injEq] at h1
      obtain ⟨rfl, rfl⟩ := h1
      exact absurd hg hc
theorem qrows_reads {α : Type} {f : RS → α × RS} {enc : α → List UInt8} (h : QReads f enc) : QReads (RS.rows f) (fun l => enc7 l.length ++ l.flatMap enc) := by
  intro s l s1 h1 hg
  unfold RS.rows at h1
  obtain ⟨g1, e1, n1⟩ := qrep_reads h _ _ _ _ h1 hg
  obtain ⟨g0, e0⟩ := qnum_reads.at' s g1
  refine ⟨g0, ?_⟩
  dsimp only
  rw [n1, List.append_assoc, ← e1]
  exact e0
/-- The lists that a letter fills are empty till it comes. -/
def Bare (l : List UInt8) (d : Md) : Prop := (115 ∈ l → d.batches = []) ∧ (118 ∈ l → d.votes = [])
theorem setQ_reads (c : UInt8) (hc : Letter c) (x : Md × RS) (hb : Bare [c] x.1) (d1 : Md) (s1 : RS) (h : setQ c x = (d1, s1)) (hg : s1.ok = true) : x.2.ok = true ∧ x.2.l = fieldB d1 c ++ s1.l := by
  obtain ⟨d0, s⟩ := x
  obtain ⟨hb1, hb2⟩ := hb
  dsimp only at hb1 hb2
  rcases hc with rfl | rfl | rfl | rfl | rfl | rfl | rfl
  · unfold setQ at h
    rw [if_pos rfl] at h
    simp only [Prod.mk.injEq] at h
    obtain ⟨rfl, h⟩ := h
    exact qball_reads s s.ball.1 s1 (by rw [← h]) hg
  · unfold setQ at h
    rw [if_neg (by decide), if_pos rfl] at h
    simp only [Prod.mk.injEq] at h
    obtain ⟨rfl, h⟩ := h
    exact qnum_reads s s.num.1 s1 (by rw [← h]) hg
  · unfold setQ at h
    rw [if_neg (by decide), if_neg (by decide), if_pos rfl] at h
    simp only [Prod.mk.injEq] at h
    obtain ⟨rfl, h⟩ := h
    exact qnum_reads s s.num.1 s1 (by rw [← h]) hg
  · unfold setQ at h
    rw [if_neg (by decide), if_neg (by decide), if_neg (by decide), if_pos rfl] at h
    simp only [Prod.mk.injEq] at h
    obtain ⟨rfl, h⟩ := h
    exact qnum_reads s s.num.1 s1 (by rw [← h]) hg
  · unfold setQ at h
    rw [if_neg (by decide), if_neg (by decide), if_neg (by decide), if_neg (by decide), if_pos rfl] at h
    simp only [Prod.mk.injEq] at h
    obtain ⟨rfl, h⟩ := h
    exact qtext_reads s s.text.1 s1 (by rw [← h]) hg
  · unfold setQ at h
    rw [if_neg (by decide), if_neg (by decide), if_neg (by decide), if_neg (by decide), if_neg (by decide), if_pos rfl] at h
    simp only [Prod.mk.injEq] at h
    obtain ⟨rfl, h⟩ := h
    rw [hb1 (by simp)]
    exact qrows_reads qtext_reads s (s.rows RS.text).1 s1 (by rw [← h]) hg
  · unfold setQ at h
    rw [if_neg (by decide), if_neg (by decide), if_neg (by decide), if_neg (by decide), if_neg (by decide), if_neg (by decide), if_pos rfl] at h
    simp only [Prod.mk.injEq] at h
    obtain ⟨rfl, h⟩ := h
    rw [hb2 (by simp)]
    exact qrows_reads qvote_reads s (s.rows RS.vote).1 s1 (by rw [← h]) hg
theorem setQ_other (c c' : UInt8) (hc : Letter c) (hc' : Letter c') (hne : c ≠ c') (x : Md × RS) : fieldB (setQ c' x).1 c = fieldB x.1 c := by
  rcases hc with rfl | rfl | rfl | rfl | rfl | rfl | rfl <;> rcases hc' with rfl | rfl | rfl | rfl | rfl | rfl | rfl <;> first | rfl | exact absurd rfl hne
theorem setQ_bare (c : UInt8) (l : List UInt8) (hc : Letter c) (hn : c ∉ l) (x : Md × RS) (h : Bare l x.1) : Bare l (setQ c x).1 := by
  obtain ⟨h1, h2⟩ := h
  rcases hc with rfl | rfl | rfl | rfl | rfl | rfl | rfl
  · exact ⟨h1, h2⟩
  · exact ⟨h1, h2⟩
  · exact ⟨h1, h2⟩
  · exact ⟨h1, h2⟩
  · exact ⟨h1, h2⟩
  · exact ⟨fun h => absurd h hn, h2⟩
  · exact ⟨h1, fun h => absurd h hn⟩
theorem takeQF_other (c : UInt8) (hc : Letter c) : ∀ (l : List UInt8) (x : Md × RS), (∀ c' ∈ l, Letter c') → c ∉ l → fieldB (takeQF l x).1 c = fieldB x.1 c := by
  intro l
  induction l with
  | nil => intro x _ _; rfl
  | cons c' l ih =>
    intro x hl hn
    show fieldB (takeQF l (setQ c' x)).1 c = _
    rw [ih _ (fun y hy => hl y (by simp [hy])) (fun h => hn (by simp [h])), setQ_other c c' hc (hl c' (by simp)) (fun h => hn (by simp [h]))]
theorem takeQF_reads : ∀ (l : List UInt8) (x : Md × RS) (d : Md) (s : RS), (∀ c ∈ l, Letter c) → l.Nodup → Bare l x.1 → takeQF l x = (d, s) → s.ok = true → x.2.ok = true ∧ x.2.l = l.flatMap (fieldB d) ++ s.l := by
  intro l
  induction l with
  | nil =>
    intro x d s _ _ _ h hg
    have h' : x = (d, s) := h
    subst h'
    exact ⟨hg, rfl⟩
  | cons c l ih =>
    intro x d s hl hn hb h hg
    obtain ⟨⟨d1, s1⟩, h1⟩ : ∃ p, setQ c x = p := ⟨_, rfl⟩
    have h2 : takeQF l (d1, s1) = (d, s) := by rw [← h1]; exact h
    rw [List.nodup_cons] at hn
    have hb1 : Bare l d1 := by
      have := setQ_bare c l (hl c (by simp)) hn.1 x ⟨fun h => hb.1 (by simp [h]), fun h => hb.2 (by simp [h])⟩
      rwa [h1] at this
    obtain ⟨g1, e1⟩ := ih (d1, s1) d s (fun y hy => hl y (by simp [hy])) hn.2 hb1 h2 hg
    obtain ⟨g0, e0⟩ := setQ_reads c (hl c (by simp)) x ⟨fun h => hb.1 (by simp at h; simp [h]), fun h => hb.2 (by simp at h; simp [h])⟩ d1 s1 h1 g1
    refine ⟨g0, ?_⟩
    have e2 := takeQF_other c (hl c (by simp)) l (d1, s1) (fun y hy => hl y (by simp [hy])) hn.1
    rw [h2] at e2
    dsimp only at e1 e2
    rw [e0, e1, List.flatMap_cons, e2, List.append_assoc]
end Go.Proofs.YtekdnljincbghaaDoor
