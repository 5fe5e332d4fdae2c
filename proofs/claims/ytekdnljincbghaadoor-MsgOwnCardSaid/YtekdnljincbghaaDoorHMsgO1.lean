/- A message whose bytes anybody may turn: what stays of it. -/
import Derived.Test.YtekdnljincbghaaDoorZ7
namespace Go.Proofs.YtekdnljincbghaaDoor
open Go Go.RowKit Go.Lib

/-- A row of so many bytes of the call's own. -/
def WkB (w : World) (ao : Option Addr) (cap n : Nat) : Prop := ∃ l : List UInt8, l.length = n ∧ OwnB w ao cap l
theorem WkB.mod {S : List Nat} {w w' : World} {ao : Option Addr} {cap n : Nat} (h : WkB w ao cap n) (m : Mod S w w') (hn : ∀ k, k ∈ blk ao → k ∉ S) : WkB w' ao cap n := by
  obtain ⟨l, hl, ho⟩ := h
  exact ⟨l, hl, ho.mod m hn⟩
/-- A byte is stored into a row of bytes: rows of bytes stay so. -/
theorem WkB.set {w : World} {ao : Option Addr} {cap n : Nat} (h : WkB w ao cap n) (g j : Nat) (x : UInt8) : WkB (w.setCell ⟨g, j, none⟩ (u8v x)) ao cap n := by
  obtain ⟨l, hl, ho⟩ := h
  by_cases hg : ∃ off, ao = some ⟨g, off, none⟩
  · obtain ⟨off, rfl⟩ := hg
    have h0 : off = 0 := by
      rcases ho.2 with ⟨h, _⟩ | ⟨g', cur, fz, h, _⟩
      · cases h
      · cases h; rfl
    subst h0
    exact ⟨l.set j x, by rw [List.length_set]; exact hl, ho.set x⟩
  · refine ⟨l, hl, ho.mod (Mod.setCell (S := [g]) w ⟨g, j, none⟩ (u8v x) (by simp)) (fun k hk hs => ?_)⟩
    simp only [List.mem_singleton] at hs
    subst hs
    rcases ho.2 with ⟨h, _⟩ | ⟨g', cur, fz, h, _⟩
    · rw [h] at hk; simp [blk] at hk
    · rw [h] at hk
      simp only [blk, List.mem_singleton] at hk
      subst hk
      exact hg ⟨0, h⟩
/-- What a walk needs of a byte of such a row. -/
theorem WkB.cell {w : World} {ao : Option Addr} {cap n j : Nat} (h : WkB w ao cap n) (hj : j < n) : ∃ g x, ao = some ⟨g, 0, none⟩ ∧ w.cell? ⟨g, j, none⟩ = some (.int .u8 ((UInt8.toNat x : Nat) : Int)) ∧ w.frozen? ⟨g, j, none⟩ = false := by
  obtain ⟨l, hl, ho⟩ := h
  obtain ⟨g, h1, h2, h3⟩ := ho.cell (j := j) (by omega)
  exact ⟨g, _, h1, h2, h3⟩
theorem WkB.max {w : World} {ao : Option Addr} {cap n : Nat} (h : WkB w ao cap n) : n ≤ 9223372036854775807 := by
  obtain ⟨l, hl, ho⟩ := h
  have := own_max ho
  omega
theorem map_snd_at {vs us : List Vm} (h : vs.map Prod.snd = us.map Prod.snd) {i : Nat} (hi : i < vs.length) : ∃ h2 : i < us.length, vs[i].2 = us[i].2 := by
  have hl : vs.length = us.length := by have := congrArg List.length h; simpa using this
  refine ⟨by omega, ?_⟩
  have := congrArg (fun l => l[i]?) h
  simp only [List.getElem?_map, List.getElem?_eq_getElem hi, List.getElem?_eq_getElem (show i < us.length by omega), Option.map_some, Option.some.injEq] at this
  exact this
theorem map_snd_set (vs : List Vm) {i : Nat} (hi : i < vs.length) (y : Vd) : (vs.set i (y, vs[i].2)).map Prod.snd = vs.map Prod.snd := by
  rw [List.map_set]
  have e : (vs.map Prod.snd)[i]? = some vs[i].2 := by rw [List.getElem?_map, List.getElem?_eq_getElem hi]; rfl
  exact List.ext_getElem? (fun j => by
    rw [List.getElem?_set]
    split
    · rename_i h
      subst h
      split
      · exact e.symm
      · rename_i h2
        simp at h2
        omega
    · rfl)
/-- One more. -/
theorem inc_byte (x : UInt8) : (.int .u8 (((x.toNat : Int) + 1) % 256) : Value) = u8v (UInt8.ofNat (x.toNat + 1)) := by
  unfold u8v
  rw [UInt8.toNat_ofNat']
  congr 1
/-- A message whose bytes may have turned. -/
structure WkM (w : World) (m : Mm) : Prop where
  votes : OwnV w m.vo m.vc m.votes
  vel : ∀ v ∈ m.votes, WkB w v.2.2.1 v.2.2.2 v.2.1.length
  batches : OwnM bsV w 27 m.so m.sc m.batches
  bel : ∀ b ∈ m.batches, WkB w b.2.1 b.2.2 b.1.length
  snap : WkB w m.p.2.1 m.p.2.2 m.p.1.length
theorem NewM.wk {B : Nat} {w : World} {m : Mm} (h : NewM B w m) : WkM w m :=
  ⟨h.votes.own, fun v hv => ⟨_, rfl, (h.votes.el v hv).1⟩, h.batches.own, fun b hb => ⟨_, rfl, (h.batches.el b hb).1⟩, ⟨_, rfl, h.snap.1⟩⟩
theorem WkM.mod0 {w w' : World} {m : Mm} (h : WkM w m) (k : Mod [] w w') : WkM w' m :=
  ⟨Own.mod h.votes k (fun _ _ => List.not_mem_nil), fun v hv => (h.vel v hv).mod k (fun _ _ => List.not_mem_nil), Own.mod h.batches k (fun _ _ => List.not_mem_nil), fun b hb => (h.bel b hb).mod k (fun _ _ => List.not_mem_nil), h.snap.mod k (fun _ _ => List.not_mem_nil)⟩
/-- A byte of a row of bytes is stored. -/
theorem WkM.set {w : World} {m : Mm} (h : WkM w m) {g cap n : Nat} (hg : WkB w (some ⟨g, 0, none⟩) cap n) (j : Nat) (x : UInt8) : WkM (w.setCell ⟨g, j, none⟩ (u8v x)) m := by
  obtain ⟨l, hl, ho⟩ := hg
  have hm : Mod [g] w (w.setCell ⟨g, j, none⟩ (u8v x)) := Mod.setCell w _ _ (by simp)
  have h1 : ∀ k, k ∈ blk m.vo → k ∉ [g] := by
    intro k hk
    have := own_apart h.votes ho (by decide) k hk
    simpa [blk] using this
  have h2 : ∀ k, k ∈ blk m.so → k ∉ [g] := by
    intro k hk
    have := own_apart h.batches ho (by decide) k hk
    simpa [blk] using this
  exact ⟨Own.mod h.votes hm h1, fun v hv => (h.vel v hv).set g j x, Own.mod h.batches hm h2, fun b hb => (h.bel b hb).set g j x, h.snap.set g j x⟩
/-- A message with another vote in the place of one. -/
def Mm.putV (m : Mm) (i : Nat) (v : Vm) : Mm := { m with votes := m.votes.set i v }
theorem cellsV_set (l : List Vm) : ∀ (i : Nat) (hi : i < l.length) (s : Nat), (cellsV l).set (i * 4) (.int .u64 (s : Int)) = cellsV (l.set i (⟨s, l[i].1.n, l[i].1.r⟩, l[i].2)) := by
  induction l with
  | nil => intro i hi; simp at hi
  | cons x l ih =>
    intro i hi s
    unfold cellsV at ih ⊢
    cases i with
    | zero => rfl
    | succ i =>
      have := ih i (by simpa using hi) s
      simp only [List.set_cons_succ, List.flatMap_cons, List.getElem_cons_succ]
      rw [← this, List.set_append_right _ _ (by simp [voteC]; omega)]
      congr 2
      simp [voteC]
      omega
/-- A vote's slot is stored. -/
theorem WkM.slot {w : World} {m : Mm} (h : WkM w m) {i g : Nat} (hi : i < m.votes.length) (hg : m.vo = some ⟨g, 0, none⟩) (s : Nat) :
    WkM (w.setCell ⟨g, i * 4, none⟩ (.int .u64 (s : Int))) (m.putV i (⟨s, m.votes[i].1.n, m.votes[i].1.r⟩, m.votes[i].2)) := by
  have hm : Mod [g] w (w.setCell ⟨g, i * 4, none⟩ (.int .u64 (s : Int))) := Mod.setCell w _ _ (by simp)
  have hap : ∀ {ao : Option Addr} {e : TypeId} {z n c : Nat} {xs : List Value}, Own w e z ao n c xs → e ≠ 52 → ∀ k, k ∈ blk ao → k ∉ [g] := by
    intro ao e z n c xs ho hne k hk
    have := own_apart ho h.votes hne k hk
    rw [hg] at this
    simpa [blk] using this
  have hB : ∀ {ao : Option Addr} {cap n : Nat}, WkB w ao cap n → WkB (w.setCell ⟨g, i * 4, none⟩ (.int .u64 (s : Int))) ao cap n := by
    intro ao cap n ⟨l, hl, ho⟩
    exact ⟨l, hl, ho.mod hm (hap ho (by decide))⟩
  refine ⟨?_, ?_, Own.mod h.batches hm (hap h.batches (by decide)), fun b hb => hB (h.bel b hb), hB h.snap⟩
  · have hv := h.votes
    unfold OwnV at hv
    rw [hg] at hv
    have := Own.set (j := i * 4) hv (.int .u64 (s : Int))
    rw [cellsV_set m.votes i hi s] at this
    show Own _ _ 4 m.vo (m.votes.set i _).length m.vc _
    rw [hg, List.length_set]
    exact this
  · intro v hv
    rcases List.mem_or_eq_of_mem_set hv with h1 | h1
    · exact hB (h.vel v h1)
    · subst h1
      exact hB (h.vel m.votes[i] (List.getElem_mem hi))
/-- All blocks of a message lie below. -/
structure MLo (m : Mm) (n : Nat) : Prop where
  vo : ∀ k, k ∈ blk m.vo → k < n
  ve : ∀ v ∈ m.votes, ∀ k, k ∈ blk v.2.2.1 → k < n
  so : ∀ k, k ∈ blk m.so → k < n
  be : ∀ b ∈ m.batches, ∀ k, k ∈ blk b.2.1 → k < n
  p : ∀ k, k ∈ blk m.p.2.1 → k < n
theorem NewM.mlo {B : Nat} {w : World} {m : Mm} (h : NewM B w m) : MLo m w.heap.size :=
  ⟨Own.lt h.votes.own, fun v hv => (h.votes.el v hv).lt, Own.lt h.batches.own, fun v hv => (h.batches.el v hv).lt, h.snap.lt⟩
/-- The numbers from a up to b. -/
def Betw (a b : Nat) : List Nat := (List.range b).filter (fun k => decide (a ≤ k))
theorem mem_betw {a b k : Nat} : k ∈ Betw a b ↔ a ≤ k ∧ k < b := by
  unfold Betw
  rw [List.mem_filter, List.mem_range, decide_eq_true_iff]
  exact And.comm
/-- What a walk needs of a vote's batch in such a message. -/
theorem WkM.vote {w : World} {m : Mm} (h : WkM w m) {i : Nat} (hi : i < m.votes.length) : ∃ g, m.vo = some ⟨g, 0, none⟩ ∧ w.cell? ⟨g, i * 4, none⟩ = some (.int .u64 (m.votes[i].1.slot : Int)) ∧ w.frozen? ⟨g, i * 4, none⟩ = false ∧
    w.cell? ⟨g, i * 4 + 3, none⟩ = some (.slice m.votes[i].2.2.1 m.votes[i].2.1.length m.votes[i].2.2.2) ∧ WkB w m.votes[i].2.2.1 m.votes[i].2.2.2 m.votes[i].2.1.length := by
  obtain ⟨g, h1, h2⟩ := OwnV.at' h.votes hi
  have h3 := h2 0 _ (by omega) rfl
  exact ⟨g, h1, h3.1, h3.2, (h2 3 _ (by omega) rfl).1, h.vel _ (List.getElem_mem hi)⟩
theorem WkM.batch {w : World} {m : Mm} (h : WkM w m) {i : Nat} (hi : i < m.batches.length) : ∃ g, m.so = some ⟨g, 0, none⟩ ∧ w.cell? ⟨g, i, none⟩ = some (.slice m.batches[i].2.1 m.batches[i].1.length m.batches[i].2.2) ∧ WkB w m.batches[i].2.1 m.batches[i].2.2 m.batches[i].1.length := by
  obtain ⟨g, h1, h2, _⟩ := OwnM.at' h.batches hi
  exact ⟨g, h1, h2, h.bel _ (List.getElem_mem hi)⟩
end Go.Proofs.YtekdnljincbghaaDoor
