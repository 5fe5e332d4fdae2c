/- What the reference reads is what the program reads: plain laws. -/
import Derived.Test.YtekdnljincbghaaDoorHMsgQ
namespace Go.Proofs.YtekdnljincbghaaDoor
open Go Go.RowKit Go.Lib

theorem qnum_write (v : Nat) (rest : List UInt8) (h : v < 18446744073709551616) : RS.num ⟨enc7 v ++ rest, true⟩ = (v, ⟨rest, true⟩) := by
  unfold RS.num
  dsimp only
  rw [uintE_write v rest h, if_pos ⟨rfl, rfl⟩]
theorem qball_write (n : Nat) (r : Int) (rest : List UInt8) (h : n < 18446744073709551616) (hr : Place r) : RS.ball ⟨ballB n r ++ rest, true⟩ = ((n, r.toNat), ⟨rest, true⟩) := by
  have h1 := hr.1
  have h2 := hr.2
  unfold RS.ball ballB
  rw [List.append_assoc, qnum_write n _ h]
  dsimp only
  rw [qnum_write r.toNat rest (by omega)]
  dsimp only
  rw [if_neg (by omega)]
theorem qtext_write (t rest : List UInt8) (h : t.length < 18446744073709551616) : RS.text ⟨txL t ++ rest, true⟩ = (t, ⟨rest, true⟩) := by
  unfold RS.text txL
  rw [List.append_assoc, qnum_write t.length _ h]
  dsimp only
  rw [if_pos ⟨rfl, by rw [List.length_append]; omega⟩, List.take_left, List.drop_left]
theorem qvote_write (v : Vd × List UInt8) (rest : List UInt8) (hw : WfV v.1) (hp : Place v.1.r) (h : v.2.length < 18446744073709551616) : RS.vote ⟨voteB v ++ rest, true⟩ = (v, ⟨rest, true⟩) := by
  obtain ⟨⟨sl, n, r⟩, t⟩ := v
  have h3 := hp.1
  unfold RS.vote voteB
  dsimp only at *
  rw [List.append_assoc, List.append_assoc, qnum_write sl _ hw.1]
  dsimp only
  rw [qball_write n r _ hw.2.1 hp]
  dsimp only
  rw [qtext_write t rest h]
  have e : ((r.toNat : Nat) : Int) = r := by omega
  rw [e]
theorem qrep_write {α : Type} (f : RS → α × RS) (enc : α → List UInt8) : ∀ (l : List α), (∀ x ∈ l, ∀ rest, f ⟨enc x ++ rest, true⟩ = (x, ⟨rest, true⟩)) → ∀ rest : List UInt8,
    RS.rep f l.length ⟨l.flatMap enc ++ rest, true⟩ = (l, ⟨rest, true⟩) := by
  intro l
  induction l with
  | nil => intro _ rest; rfl
  | cons x l ih =>
    intro h rest
    rw [List.length_cons, RS.rep_more f _ _ rfl, List.flatMap_cons, List.append_assoc, h x (by simp)]
    dsimp only
    rw [ih (fun y hy => h y (by simp [hy])) rest]
theorem qrows_write {α : Type} (f : RS → α × RS) (enc : α → List UInt8) (l : List α) (h : ∀ x ∈ l, ∀ rest, f ⟨enc x ++ rest, true⟩ = (x, ⟨rest, true⟩)) (rest : List UInt8) (hs : l.length < 18446744073709551616) :
    RS.rows f ⟨(enc7 l.length ++ l.flatMap enc) ++ rest, true⟩ = (l, ⟨rest, true⟩) := by
  unfold RS.rows
  rw [List.append_assoc, qnum_write _ _ hs]
  exact qrep_write f enc l h rest
theorem setQ_write (lim : Int) (d : Md) (c : UInt8) (hc : Letter c) (x : Md) (hb : Bare [c] x) (rest : List UInt8) (hM : MayM d) (hn : NumD d) (hlim : lim < 18446744073709551616) (hf : FitD d lim) :
    setQ c (x, ⟨fieldB d c ++ rest, true⟩) = (updF d c x, ⟨rest, true⟩) := by
  obtain ⟨⟨n1, n2, n3, n4, n5, n6⟩, n7⟩ := hn
  have hp := hM.2.2.1
  have hL : Lists d := hM.2.2.2.2.2.2.2.2.2.2
  obtain ⟨hb1, hb2⟩ := hb
  rcases hc with rfl | rfl | rfl | rfl | rfl | rfl | rfl
  · unfold setQ updF fieldB
    rw [if_pos rfl, if_pos rfl, if_pos rfl]
    dsimp only
    rw [qball_write _ _ _ n2 hp]
    have e : ((d.h.br.toNat : Nat) : Int) = d.h.br := by have := hp.1; omega
    dsimp only
    rw [e]
  · show (_, _) = _
    have e := qnum_write d.h.commit rest n6
    have e2 : fieldB d 99 = enc7 d.h.commit := rfl
    rw [e2, e]
    rfl
  · show (_, _) = _
    have e := qnum_write d.h.first rest n4
    have e2 : fieldB d 102 = enc7 d.h.first := rfl
    rw [e2, e]
    rfl
  · show (_, _) = _
    have e := qnum_write d.h.last rest n5
    have e2 : fieldB d 108 = enc7 d.h.last := rfl
    rw [e2, e]
    rfl
  · show (_, _) = _
    have e := qtext_write d.snap rest (by have := hf.1; omega)
    have e2 : fieldB d 112 = txL d.snap := rfl
    rw [e2, e]
    rfl
  · show (_, _) = _
    have e := qrows_write RS.text txL d.batches (fun b hb rest => qtext_write b rest (by have := hf.2.1 b hb; omega)) rest (by have := hL.1; omega)
    have e2 : fieldB d 115 = enc7 d.batches.length ++ d.batches.flatMap txL := rfl
    rw [e2, e]
    dsimp only
    rw [hb1 (by simp)]
    rfl
  · show (_, _) = _
    have e := qrows_write RS.vote voteB d.votes (fun v hv rest => qvote_write v rest (n7 v hv) (hL.2.2.2.2.place v hv) (by have := hf.2.2 v hv; omega)) rest (by have := hL.2.1; omega)
    have e2 : fieldB d 118 = enc7 d.votes.length ++ d.votes.flatMap voteB := rfl
    rw [e2, e]
    dsimp only
    rw [hb2 (by simp)]
    rfl
theorem updF_bare (d : Md) (c : UInt8) (l : List UInt8) (hc : Letter c) (hn : c ∉ l) (x : Md) (h : Bare l x) : Bare l (updF d c x) := by
  obtain ⟨h1, h2⟩ := h
  rcases hc with rfl | rfl | rfl | rfl | rfl | rfl | rfl
  · exact ⟨h1, h2⟩
  · exact ⟨h1, h2⟩
  · exact ⟨h1, h2⟩
  · exact ⟨h1, h2⟩
  · exact ⟨h1, h2⟩
  · exact ⟨fun h => absurd h hn, h2⟩
  · exact ⟨h1, fun h => absurd h hn⟩
theorem takeQF_write (lim : Int) (d : Md) (hM : MayM d) (hn : NumD d) (hlim : lim < 18446744073709551616) (hf : FitD d lim) (rest : List UInt8) : ∀ (l : List UInt8) (x : Md), (∀ c ∈ l, Letter c) → l.Nodup → Bare l x →
    takeQF l (x, ⟨l.flatMap (fieldB d) ++ rest, true⟩) = (l.foldl (fun y c => updF d c y) x, ⟨rest, true⟩) := by
  intro l
  induction l with
  | nil => intro x _ _ _; rfl
  | cons c l ih =>
    intro x hl hnd hb
    rw [List.nodup_cons] at hnd
    show takeQF l (setQ c _) = _
    rw [List.flatMap_cons, List.append_assoc, setQ_write lim d c (hl c (by simp)) x ⟨fun h => hb.1 (by simp at h; simp [h]), fun h => hb.2 (by simp at h; simp [h])⟩ _ hM hn hlim hf,
      ih _ (fun y hy => hl y (by simp [hy])) hnd.2 (updF_bare d c l (hl c (by simp)) hnd.1 x ⟨fun h => hb.1 (by simp [h]), fun h => hb.2 (by simp [h])⟩)]
    rfl
theorem bare_mz (k : Nat) (l : List UInt8) : Bare l (mz k).d := ⟨fun _ => rfl, fun _ => rfl⟩
theorem takeQ_write (d : Md) (hM : MayM d) (hn : NumD d) (hs : (msgB d).length < 18446744073709551616) : takeQ (msgB d) = (0, d) := by
  have hk := hM.1
  have hk9 : d.h.kind < 9 := by have := hk.2; omega
  unfold takeQ
  rw [if_neg (by have := insideB_pos d; rw [msgB_len]; omega), msgB_take, msgB_drop, if_pos rfl]
  unfold insQ
  have hu : RS.num ⟨insideB d, true⟩ = (d.h.kind, ⟨(Fl d.h.kind).flatMap (fieldB d), true⟩) := by
    unfold insideB
    exact qnum_write _ _ (by omega)
  rw [hu]
  dsimp only
  have ht := takeQF_write ((msgB d).length : Int) d hM hn (by omega) (fit_of d hM) [] (Fl d.h.kind) (mz d.h.kind).d (Fl_letter _ hk9) (Fl_nodup _ hk9) (bare_mz _ _)
  rw [List.append_nil, upd_all d hM] at ht
  rw [if_neg (by omega), ht]
  dsimp only
  rw [if_pos ⟨rfl, rfl, hM⟩]
/-- Numbers that are read are numbers. -/
theorem RS.ball_lt (s : RS) : s.ball.1.1 < 18446744073709551616 ∧ s.ball.1.2 < 7 := by
  have h1 := s.num_lt
  unfold RS.ball
  split
  · exact ⟨by dsimp only; omega, by dsimp only; omega⟩
  · exact ⟨h1, by dsimp only; omega⟩
theorem qrep_num {α : Type} (p : α → Prop) (f : RS → α × RS) (h : ∀ s, p (f s).1) (k : Nat) : ∀ s, ∀ x ∈ (RS.rep f k s).1, p x := by
  induction k with
  | zero => intro s x hx; simp [RS.rep] at hx
  | succ k ih =>
    intro s x hx
    unfold RS.rep at hx
    split at hx
    · rcases List.mem_cons.1 hx with h1 | h1
      · subst h1; exact h _
      · exact ih _ x h1
    · simp at hx
theorem setQ_num (c : UInt8) (x : Md × RS) (h : NumD x.1) : NumD (setQ c x).1 := by
  obtain ⟨⟨a1, a2, a3, a4, a5, a6⟩, hv⟩ := h
  have h1 := x.2.num_lt
  have h2 := x.2.ball_lt
  unfold setQ
  repeat' split
  · exact ⟨⟨a1, by dsimp only; omega, by dsimp only; omega, a4, a5, a6⟩, hv⟩
  · exact ⟨⟨a1, a2, a3, a4, a5, h1⟩, hv⟩
  · exact ⟨⟨a1, a2, a3, h1, a5, a6⟩, hv⟩
  · exact ⟨⟨a1, a2, a3, a4, h1, a6⟩, hv⟩
  · exact ⟨⟨a1, a2, a3, a4, a5, a6⟩, hv⟩
  · exact ⟨⟨a1, a2, a3, a4, a5, a6⟩, hv⟩
  · refine ⟨⟨a1, a2, a3, a4, a5, a6⟩, fun v hv' => ?_⟩
    rcases List.mem_append.1 hv' with h | h
    · exact hv v h
    · refine qrep_num (fun v : Vd × List UInt8 => WfV v.1) RS.vote (fun s => ?_) _ _ v h
      have h3 := s.num_lt
      have h4 := s.num.2.ball_lt
      unfold RS.vote WfV
      dsimp only
      omega
  · exact ⟨⟨a1, a2, a3, a4, a5, a6⟩, hv⟩
theorem takeQF_num : ∀ (l : List UInt8) (x : Md × RS), NumD x.1 → NumD (takeQF l x).1 := by
  intro l
  induction l with
  | nil => intro x h; exact h
  | cons c l ih => intro x h; exact ih _ (setQ_num c x h)
theorem setQ_kind (c : UInt8) (x : Md × RS) : (setQ c x).1.h.kind = x.1.h.kind := by
  unfold setQ
  repeat' split
  all_goals rfl
theorem takeQF_kind : ∀ (l : List UInt8) (x : Md × RS), (takeQF l x).1.h.kind = x.1.h.kind := by
  intro l
  induction l with
  | nil => intro x; rfl
  | cons c l ih =>
    intro x
    show (takeQF l (setQ c x)).1.h.kind = _
    rw [ih, setQ_kind]
theorem mz_num (k : Nat) (h : k < 256) : NumD (mz k).d := by
  refine ⟨?_, by simp [mz, Mm.d, dV]⟩
  unfold WfH mz Mm.d
  dsimp only
  omega
theorem insQ_read (l : List UInt8) (d : Md) (h : insQ l = (0, d)) : l = insideB d ∧ MayM d ∧ NumD d := by
  unfold insQ at h
  obtain ⟨⟨kind, s1⟩, hu⟩ : ∃ p, RS.num ⟨l, true⟩ = p := ⟨_, rfl⟩
  rw [hu] at h
  dsimp only at h
  by_cases hk : 8 < kind
  · rw [if_pos hk] at h
    simp only [Prod.mk.injEq] at h
    exact absurd h.1 (by decide)
  rw [if_neg hk] at h
  obtain ⟨⟨d2, s2⟩, ht⟩ : ∃ p, takeQF (Fl kind) ((mz kind).d, s1) = p := ⟨_, rfl⟩
  rw [ht] at h
  dsimp only at h
  by_cases hc : s2.ok = true ∧ s2.l = [] ∧ MayM d2
  case neg =>
    rw [if_neg hc] at h
    simp only [Prod.mk.injEq] at h
    exact absurd h.1 (by decide)
  rw [if_pos hc] at h
  simp only [Prod.mk.injEq, true_and] at h
  subst h
  obtain ⟨hb, hd, hm⟩ := hc
  have hk9 : kind < 9 := by omega
  obtain ⟨g1, e1⟩ := takeQF_reads _ _ _ _ (Fl_letter kind hk9) (Fl_nodup kind hk9) (bare_mz _ _) ht hb
  obtain ⟨-, e0⟩ := qnum_reads _ _ _ hu g1
  dsimp only at e0 e1
  have hkd : d2.h.kind = kind := by
    have := takeQF_kind (Fl kind) ((mz kind).d, s1)
    rw [ht] at this
    exact this
  refine ⟨?_, hm, ?_⟩
  · unfold insideB
    rw [e0, e1, hd, List.append_nil, hkd]
  · have := takeQF_num (Fl kind) ((mz kind).d, s1) (mz_num kind (by omega))
    rw [ht] at this
    exact this
theorem insQ_err (l : List UInt8) : insQ l = (11, (mz 0).d) ∨ ∃ d, insQ l = (0, d) := by
  unfold insQ
  split
  · exact .inl rfl
  · split
    · exact .inr ⟨_, rfl⟩
    · exact .inl rfl
theorem insR_err (l : List UInt8) : insR l = (11, (mz 0).d) ∨ ∃ d, insR l = (0, d) := by
  unfold insR
  split
  · split
    · exact .inr ⟨_, rfl⟩
    · exact .inl rfl
  · exact .inl rfl
/-- The reference and the program read alike. -/
theorem takeQ_eq (l : List UInt8) (hl : l.length < 18446744073709551616) : takeQ l = takeR l := by
  by_cases h5 : l.length < 5
  · unfold takeQ takeR
    rw [if_pos h5, if_pos h5]
  by_cases hs : sum4 (l.drop 4) = l.take 4
  case neg =>
    unfold takeQ takeR
    rw [if_neg h5, if_neg h5, if_neg hs, if_neg hs]
  have hq : takeQ l = insQ (l.drop 4) := by unfold takeQ; rw [if_neg h5, if_pos hs]
  have hr : takeR l = insR l := by unfold takeR; rw [if_neg h5, if_pos hs]
  have hle : ∀ d, insideB d = l.drop 4 → l = msgB d := fun d h => by
    unfold msgB
    rw [h, hs, List.take_append_drop]
  rcases insQ_err (l.drop 4) with h | ⟨d, h⟩
  · rcases insR_err l with h2 | ⟨d, h2⟩
    · rw [hq, hr, h, h2]
    · exfalso
      obtain ⟨e, hM, hN⟩ := takeR_read l d (by rw [hr, h2])
      have h3 := takeQ_write d hM hN (by rw [← e]; exact hl)
      rw [← e, hq, h] at h3
      simp only [Prod.mk.injEq] at h3
      exact absurd h3.1 (by decide)
  · obtain ⟨e, hM, hN⟩ := insQ_read _ _ h
    have e2 := hle d e.symm
    rw [hq, h, e2, takeR_write d hM hN (by rw [← e2]; exact hl)]
end Go.Proofs.YtekdnljincbghaaDoor
