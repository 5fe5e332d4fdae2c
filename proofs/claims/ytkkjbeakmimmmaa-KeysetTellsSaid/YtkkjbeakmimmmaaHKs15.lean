/- Groups: the rows, and the plain law. -/
import Derived.Test.YtkkjbeakmimmmaaHKs9
import Derived.Test.YtkkjbeakmimmmaaZ3
import Derived.Lib.Slices
namespace Go.Proofs.Ytkkjbeakmimmmaa
open Go Go.RowKit Go.Lib

/-- How many waves. -/
def topOf (ws : List Nat) : Nat := ws.foldl (fun t u => max t (u + 1)) 0
theorem top_snoc (ws : List Nat) (u : Nat) : topOf (ws ++ [u]) = max (topOf ws) (u + 1) := by
  unfold topOf
  rw [List.foldl_append]
  rfl
theorem fold_max (ws : List Nat) : ∀ t : Nat, (ws.map fun u : Nat => (u : Int)).foldl max (t : Int) + 1 = ((ws.foldl (fun t u => max t (u + 1)) (t + 1) : Nat) : Int) := by
  induction ws with
  | nil => intro t; rfl
  | cons u r ih =>
    intro t
    have e : max (t : Int) (u : Int) = ((max t u : Nat) : Int) := by omega
    show (r.map fun u : Nat => (u : Int)).foldl max (max (t : Int) (u : Int)) + 1 = ((r.foldl (fun t u => max t (u + 1)) (max (t + 1) (u + 1)) : Nat) : Int)
    rw [e, ih, show max t u + 1 = max (t + 1) (u + 1) by omega]
theorem top_max (ws : List Nat) (h : ws ≠ []) : Lib.maxOf (ws.map fun u : Nat => (u : Int)) + 1 = (topOf ws : Int) := by
  cases ws with
  | nil => exact absurd rfl h
  | cons u r =>
    show ((u :: r).map fun u : Nat => (u : Int)).foldl max (u : Int) + 1 = ((r.foldl (fun t u => max t (u + 1)) (max 0 (u + 1)) : Nat) : Int)
    have e : max (u : Int) (u : Int) = (u : Int) := by omega
    have := fold_max r u
    rw [List.map_cons, List.foldl_cons, e, this, show max 0 (u + 1) = u + 1 by omega]
theorem fold_ge (ws : List Nat) : ∀ t : Nat, t ≤ ws.foldl (fun t u => max t (u + 1)) t ∧ ∀ u ∈ ws, u + 1 ≤ ws.foldl (fun t u => max t (u + 1)) t := by
  induction ws with
  | nil => intro t; exact ⟨Nat.le_refl _, fun u h => by simp at h⟩
  | cons x r ih =>
    intro t
    obtain ⟨h1, h2⟩ := ih (max t (x + 1))
    rw [List.foldl_cons]
    refine ⟨by omega, fun u hu => ?_⟩
    rcases List.mem_cons.1 hu with rfl | h
    · omega
    · exact h2 u h
theorem top_ge (ws : List Nat) : ∀ u ∈ ws, u + 1 ≤ topOf ws := (fold_ge ws 0).2
theorem fold_le (ws : List Nat) (n : Nat) (h : ∀ u ∈ ws, u + 1 ≤ n) : ∀ t : Nat, t ≤ n → ws.foldl (fun t u => max t (u + 1)) t ≤ n := by
  induction ws with
  | nil => intro t ht; exact ht
  | cons x r ih =>
    intro t ht
    rw [List.foldl_cons]
    exact ih (fun u hu => h u (List.mem_cons_of_mem _ hu)) _ (by have := h x (List.mem_cons_self ..); omega)
theorem top_le (ws : List Nat) (n : Nat) (h : ∀ u ∈ ws, u + 1 ≤ n) : topOf ws ≤ n := fold_le ws n h 0 (Nat.zero_le _)
/-- A wave's number is at most the command's place. -/
theorem IsW.le {cs : List Cd} {w : List Nat} (h : IsW cs w) : ∀ (i v : Nat), w[i]? = some v → v ≤ i := by
  intro i
  induction i using Nat.strongRecOn with
  | ind i ih =>
    intro v hv
    rcases h.down hv with h0 | h1
    · omega
    · obtain ⟨j, hj⟩ := List.getElem?_of_mem h1
      have hji : j < i := by
        have := some_lt hj
        rw [List.length_take] at this
        omega
      rw [List.getElem?_take_of_lt hji] at hj
      have := ih j hji _ hj
      omega
/-- The places of a wave's commands, of the first i. -/
def places (ws : List Nat) (i j : Nat) : List Nat := (List.range i).filter fun p => decide (ws[p]? = some j)
theorem places_zero (ws : List Nat) (j : Nat) : places ws 0 j = [] := rfl
theorem places_yes {ws : List Nat} {i v : Nat} (h : ws[i]? = some v) : places ws (i + 1) v = places ws i v ++ [i] := by
  unfold places
  rw [List.range_succ, List.filter_append]
  congr 1
  simp [h]
theorem places_no {ws : List Nat} {i v j : Nat} (h : ws[i]? = some v) (hj : j ≠ v) : places ws (i + 1) j = places ws i j := by
  unfold places
  rw [List.range_succ, List.filter_append]
  have : ([i].filter fun p => decide (ws[p]? = some j)) = [] := by
    simp [h, Ne.symm hj]
  rw [this, List.append_nil]
theorem places_le (ws : List Nat) (i j : Nat) : (places ws i j).length ≤ i := by
  have := List.length_filter_le (fun p => decide (ws[p]? = some j)) (List.range i)
  rwa [List.length_range] at this
theorem places_mono (ws : List Nat) (i n j : Nat) (h : i ≤ n) : ∃ r, places ws n j = places ws i j ++ r := by
  induction n with
  | zero =>
    obtain rfl : i = 0 := by omega
    exact ⟨[], by simp⟩
  | succ n ih =>
    rcases Nat.lt_or_ge n i with h1 | h1
    · obtain rfl : i = n + 1 := by omega
      exact ⟨[], by simp⟩
    · obtain ⟨r, hr⟩ := ih h1
      refine ⟨r ++ [n].filter (fun p => decide (ws[p]? = some j)), ?_⟩
      rw [← List.append_assoc, ← hr]
      unfold places
      rw [List.range_succ, List.filter_append]
/-- The i-th of the wave's places, where i has the wave. -/
theorem places_at {ws : List Nat} {i n j : Nat} (h : ws[i]? = some j) (hn : i < n) : (places ws n j)[(places ws i j).length]? = some i := by
  obtain ⟨r, hr⟩ := places_mono ws (i + 1) n j hn
  rw [hr, places_yes h, List.append_assoc, List.getElem?_append_right (Nat.le_refl _), Nat.sub_self]
  rfl

/-- The rows of the groups: a row of slices in block g, each of its own. -/
def Grp (w : World) (base g n : Nat) (A : Nat → Option Addr × Nat) (R : Nat → List Nat) : Prop :=
  (∃ cur, w.heap[g]? = some (.cells cur 25 (0, 0)) ∧ cur.size = n ∧ ∀ j, j < n → cur[j]? = some (.slice (A j).1 (R j).length (A j).2)) ∧
  ∀ j, j < n → OwnM natV w 3 (A j).1 (A j).2 (R j) ∧ ∀ b, b ∈ blk (A j).1 → base ≤ b ∧ b ≠ g ∧ ∀ k, k < n → k ≠ j → b ∉ blk (A k).1
section
variable {w w' : World} {base g n : Nat} {A : Nat → Option Addr × Nat} {R : Nat → List Nat}
theorem Grp.mod0 (h : Grp w base g n A R) (hm : Mod [] w w') : Grp w' base g n A R := by
  obtain ⟨⟨cur, h1, h2, h3⟩, h4⟩ := h
  exact ⟨⟨cur, hm.get h1 List.not_mem_nil, h2, h3⟩, fun j hj => ⟨(h4 j hj).1.mod0 hm, (h4 j hj).2⟩⟩
theorem Grp.cell (h : Grp w base g n A R) {j : Nat} (hj : j < n) : w.cell? ⟨g, j, none⟩ = some (.slice (A j).1 (R j).length (A j).2) := by
  obtain ⟨⟨cur, h1, h2, h3⟩, _⟩ := h
  rw [cell_of_block h1]
  exact h3 j hj
theorem Grp.free (h : Grp w base g n A R) (j : Nat) : w.frozen? ⟨g, j, none⟩ = false := by
  obtain ⟨⟨cur, h1, _⟩, _⟩ := h
  exact free_of_block h1
theorem Grp.lt (h : Grp w base g n A R) : g < w.heap.size := by
  obtain ⟨⟨cur, h1, _⟩, _⟩ := h
  exact lt_of_block h1
/-- A row has grown, and its slice is stored. -/
theorem Grp.step (h : Grp w base g n A R) {v : Nat} (hv : v < n) (hb : base ≤ w.heap.size) {a9 : Option Addr} {c9 x : Nat} (ho : OwnM natV w' 3 a9 c9 (R v ++ [x])) (hm : Mod (blk (A v).1) w w') (hs : SameOrNew w w' (A v).1 a9) :
    Grp (w'.setCell ⟨g, v, none⟩ (.slice a9 ((R v).length + 1) c9)) base g n (fun j => if j = v then (a9, c9) else A j) (fun j => if j = v then R v ++ [x] else R j) := by
  have hg := h.lt
  obtain ⟨⟨cur, h1, h2, h3⟩, h4⟩ := h
  have hgv : g ∉ blk (A v).1 := fun hh => ((h4 v hv).2 g hh).2.1 rfl
  have h1' := hm.get h1 hgv
  have mS : Mod [g] w' (w'.setCell ⟨g, v, none⟩ (.slice a9 ((R v).length + 1) c9)) := Mod.setCell _ _ _ (by simp)
  have new9 : ∀ b, b ∈ blk a9 → b ∈ blk (A v).1 ∨ w.heap.size ≤ b := hs.blk
  have off9 : ∀ b, b ∈ blk a9 → base ≤ b ∧ b ≠ g ∧ ∀ k, k < n → k ≠ v → b ∉ blk (A k).1 := fun b hb9 => by
    rcases new9 b hb9 with h5 | h5
    · exact (h4 v hv).2 b h5
    · refine ⟨by omega, by omega, fun k hk _ hh => ?_⟩
      have := (h4 k hk).1.lt b hh
      omega
  refine ⟨⟨_, heap_setCell_same h1' _, by simpa using h2, fun j hj => ?_⟩, fun j hj => ?_⟩
  · by_cases hjv : j = v
    · subst hjv
      simp only [if_true]
      rw [List.length_append]
      simp [h2, hj]
    · simp only [if_neg hjv]
      rw [← h3 j hj]
      simp [Ne.symm hjv]
  · by_cases hjv : j = v
    · subst hjv
      simp only [if_true]
      refine ⟨ho.mod mS (fun k hk hk2 => ?_), fun b hb9 => ?_⟩
      · rw [List.mem_singleton] at hk2
        exact (off9 k hk).2.1 hk2
      · refine ⟨(off9 b hb9).1, (off9 b hb9).2.1, fun k hk hkj => ?_⟩
        simp only [if_neg hkj]
        exact (off9 b hb9).2.2 k hk hkj
    · simp only [if_neg hjv]
      refine ⟨((h4 j hj).1.mod hm (fun k hk hk2 => ((h4 v hv).2 k hk2).2.2 j hj hjv hk)).mod mS (fun k hk hk2 => ?_), fun b hbj => ?_⟩
      · rw [List.mem_singleton] at hk2
        exact ((h4 j hj).2 k hk).2.1 hk2
      · refine ⟨((h4 j hj).2 b hbj).1, ((h4 j hj).2 b hbj).2.1, fun k hk hkj => ?_⟩
        by_cases hkv : k = v
        · simp only [if_pos hkv]
          intro hh
          exact (off9 b hh).2.2 j hj hjv hbj
        · simp only [if_neg hkv]
          exact ((h4 j hj).2 b hbj).2.2 k hk hkj
theorem Grp.same {R' : Nat → List Nat} (h : Grp w base g n A R) (hR : ∀ j, j < n → R j = R' j) : Grp w base g n A R' := by
  obtain ⟨⟨cur, h1, h2, h3⟩, h4⟩ := h
  exact ⟨⟨cur, h1, h2, fun j hj => by rw [← hR j hj]; exact h3 j hj⟩, fun j hj => by rw [← hR j hj]; exact h4 j hj⟩
end
/-- What Groups tells. -/
def GroupsR (w : World) (ws : List Nat) (e : Ending) (w' : World) : Prop :=
  ∃ (go : Option Addr) (cap : Nat), e = .returned (.slice go (topOf ws) cap) ∧ Mod [] w w' ∧ ∀ j, j < topOf ws → ∃ g ao c, go = some ⟨g, 0, none⟩ ∧ w'.cell? ⟨g, j, none⟩ = some (.slice ao (places ws ws.length j).length c) ∧ OwnM natV w' 3 ao c (places ws ws.length j)
end Go.Proofs.Ytkkjbeakmimmmaa
