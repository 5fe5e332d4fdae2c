/- What is read of a message holds what its types hold; bytes.Equal. -/
import Derived.Test.YtekdnljincbghaaDoorMsg9
namespace Go.Proofs.YtekdnljincbghaaDoor
open Go Go.RowKit Go.Lib

/-- Numbers that the types hold. -/
def NumD (d : Md) : Prop := WfH d.h ∧ ∀ v ∈ d.votes, WfV v.1
theorem uint_lt (s : St) : s.uint.1 < 18446744073709551616 := uintE_lt s.e s.l
theorem ball_lt (s : St) : s.ball.1.1 < 18446744073709551616 ∧ s.ball.1.2 < 7 := by
  have h1 := uintE_lt s.e s.l
  unfold St.ball takeB
  dsimp only
  split
  · exact ⟨by dsimp only; omega, by dsimp only; omega⟩
  · split
    · exact ⟨by dsimp only; omega, by dsimp only; omega⟩
    · exact ⟨h1, by dsimp only; omega⟩
theorem vote_num (lim : Int) (s : St) : WfV (s.vote lim).1.1 := by
  have h1 := uint_lt s
  have h2 := ball_lt s.uint.2
  unfold St.vote WfV
  dsimp only
  omega
theorem rep_num {α : Type} (p : α → Prop) (f : St → α × St) (h : ∀ s, p (f s).1) (k : Nat) (s : St) : ∀ x ∈ (St.rep f k s).1, p x := by
  induction k with
  | zero => simp [St.rep]
  | succ k ih =>
    intro x hx
    rw [rep_succ] at hx
    rcases List.mem_append.1 hx with h1 | h1
    · exact ih x h1
    · simp only [List.mem_singleton] at h1
      subst h1
      exact h _
theorem rows_num (lim : Int) (s : St) : ∀ v ∈ (s.rows 256 (St.vote lim)).1, WfV v.1 := by
  unfold St.rows
  split
  · simp
  · exact rep_num (fun v : Vd × List UInt8 => WfV v.1) _ (vote_num lim) _ _
theorem rows_len {α : Type} (most : Nat) (f : St → α × St) (s : St) : (s.rows most f).1.length ≤ most := by
  unfold St.rows
  split
  · simp
  · rw [rep_len]
    omega
theorem setF_num (lim : Int) (c : UInt8) (x : Md × St) (h : NumD x.1) : NumD (setF lim c x).1 := by
  obtain ⟨⟨a1, a2, a3, a4, a5, a6⟩, hv⟩ := h
  have h1 := uint_lt x.2
  have h2 := ball_lt x.2
  unfold setF
  repeat' split
  · exact ⟨⟨a1, by dsimp only; omega, by dsimp only; omega, a4, a5, a6⟩, hv⟩
  · exact ⟨⟨a1, a2, a3, a4, a5, h1⟩, hv⟩
  · exact ⟨⟨a1, a2, a3, h1, a5, a6⟩, hv⟩
  · exact ⟨⟨a1, a2, a3, a4, h1, a6⟩, hv⟩
  · exact ⟨⟨a1, a2, a3, a4, a5, a6⟩, hv⟩
  · exact ⟨⟨a1, a2, a3, a4, a5, a6⟩, hv⟩
  · exact ⟨⟨a1, a2, a3, a4, a5, a6⟩, rows_num lim x.2⟩
  · exact ⟨⟨a1, a2, a3, a4, a5, a6⟩, hv⟩
theorem takeF_num (lim : Int) : ∀ (l : List UInt8) (x : Md × St), NumD x.1 → NumD (takeF lim l x).1 := by
  intro l
  induction l with
  | nil => intro x h; exact h
  | cons c l ih => intro x h; exact ih _ (setF_num lim c x h)
theorem setF_kind (lim : Int) (c : UInt8) (x : Md × St) : (setF lim c x).1.h.kind = x.1.h.kind := by
  unfold setF
  repeat' split
  all_goals rfl
theorem takeF_kind (lim : Int) : ∀ (l : List UInt8) (x : Md × St), (takeF lim l x).1.h.kind = x.1.h.kind := by
  intro l
  induction l with
  | nil => intro x; rfl
  | cons c l ih =>
    intro x
    show (takeF lim l (setF lim c x)).1.h.kind = _
    rw [ih, setF_kind]
theorem own_max {w : World} {e : TypeId} {z n c : Nat} {ao : Option Addr} {xs : List Value} (h : Own w e z ao n c xs) : n ≤ c ∧ c ≤ 9223372036854775807 := by
  refine ⟨h.le, ?_⟩
  rcases h.2 with ⟨_, _, rfl⟩ | ⟨g, cur, fz, rfl, hg, hz, hn, hm, _⟩
  · omega
  · unfold maxLen at hm
    omega
theorem NewB.wf {B : Nat} {w : World} {b : Bs} (h : NewB B w b) : WfB b := own_max h.1
theorem NewM.wf {B : Nat} {w : World} {m : Mm} (h : NewM B w m) (hn : NumD m.d) : WfM m := by
  refine ⟨hn.1, ?_, fun v hv => ⟨?_, (h.votes.el v hv).wf⟩, ?_, fun b hb => (h.batches.el b hb).wf, h.snap.wf⟩
  · have := own_max h.votes.own
    omega
  · exact hn.2 (v.1, v.2.1) (List.mem_map.2 ⟨v, hv, rfl⟩)
  · have := own_max h.batches.own
    omega
theorem NewVs.sees {B : Nat} {w : World} {so : Option Addr} {sc : Nat} {l : List Vm} (h : NewVs B w so sc l) : SeesVs w so l := by
  intro j hj
  obtain ⟨g, h1, h2⟩ := h.own.at' hj
  refine ⟨g, 0, h1, ⟨?_, ?_, ?_, ?_⟩, (h.el _ (List.getElem_mem hj)).1.sees⟩
  all_goals rw [Nat.zero_add]
  · exact (h2 0 _ (by omega) rfl).1
  · exact (h2 1 _ (by omega) rfl).1
  · exact (h2 2 _ (by omega) rfl).1
  · exact (h2 3 _ (by omega) rfl).1
theorem NewBs.sees {B : Nat} {w : World} {so : Option Addr} {sc : Nat} {l : List Bs} (h : NewBs B w so sc l) : SeesBs w so l := by
  intro j hj
  obtain ⟨g, h1, h2, _⟩ := h.own.at' hj
  exact ⟨g, 0, h1, by rw [Nat.zero_add]; exact h2, (h.el _ (List.getElem_mem hj)).1.sees⟩
theorem NewM.sees {B : Nat} {w : World} {m : Mm} (h : NewM B w m) : SeesM w m := ⟨h.votes.sees, h.batches.sees, h.snap.1.sees⟩

theorem bequal_any (ao bo : Option Addr) (n m c d : Nat) (a b : List UInt8) (w : World) (ha : a.length = n) (hb : b.length = m) (h1 : Sees w ao a) (h2 : Sees w bo b) :
    Calls Tryd.prog 38 #[.slice ao n c, .slice bo m d] w fun e w' => e = .returned (.bool (decide (a = b))) ∧ w' = w := by
  subst ha
  subst hb
  have H1 := Lib.hid h1
  have H2 := Lib.hid h2
  clear h1 h2
  have hd : (a == b) = decide (a = b) := by
    by_cases h : a = b
    · subst h
      simp
    · rw [decide_eq_false h, beq_eq_false_iff_ne]
      exact h
  obtain ⟨q, hq⟩ : ∃ q, (a == b) = q := ⟨_, rfl⟩
  have HQ : Hid (decide (a = b) = q) := Lib.hid (by rw [← hd, hq])
  clear hd
  go_enter Tryd.func38, Tryd.ntmps38
  go_wp2_with (first | (refine wpl_str (dst := some 6) _ ao _ c a rfl rfl H1.out (by rfl) ?_) | (refine wpl_str (dst := some 8) _ bo _ d b rfl rfl H2.out (by rfl) ?_) | fail)
  go_ret
  exact ⟨by rw [HQ.out]; rfl, rfl⟩
end Go.Proofs.YtekdnljincbghaaDoor
