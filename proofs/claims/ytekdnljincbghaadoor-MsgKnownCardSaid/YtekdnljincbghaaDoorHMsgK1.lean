/- The table of quoratelaw17.MsgKnown: its rows, and what the chapter says of them. -/
import Derived.Test.YtekdnljincbghaaDoorZ7
namespace Go.Proofs.YtekdnljincbghaaDoor
open Go Go.RowKit Go.Lib

/-- The rows: a message, and the bytes behind its sum (none: it may not be). -/
def T30 (g1 g2 g3 g4 g5 g6 g7 g8 g9 g10 g11 g12 : Nat) : List (Mm × List UInt8) := [
  (⟨⟨1, 2, 1, 0, 0, 0⟩, none, 0, [], none, 0, [], [], none, 0⟩, [1, 2, 1]),
  (⟨⟨2, 2, 1, 0, 0, 0⟩, none, 0, [], none, 0, [], [], none, 0⟩, [2, 2, 1, 0, 0]),
  (⟨⟨3, 2, 1, 0, 0, 0⟩, none, 0, [], none, 0, [], [], none, 0⟩, [3, 2, 1]),
  (⟨⟨4, 2, 1, 1, 0, 0⟩, none, 0, [], none, 0, [], [], none, 0⟩, [4, 2, 1, 0, 1, 0]),
  (⟨⟨5, 2, 1, 5, 7, 0⟩, none, 0, [], none, 0, [], [], none, 0⟩, [5, 2, 1, 5, 7]),
  (⟨⟨6, 0, 0, 3, 0, 0⟩, none, 0, [], none, 0, [], [], none, 0⟩, [6, 3]),
  (⟨⟨7, 0, 0, 3, 0, 0⟩, none, 0, [], some ⟨g2, 0, none⟩, 1, [([120], some ⟨g1, 0, none⟩, 1)], [], none, 0⟩, [7, 3, 1, 1, 120]),
  (⟨⟨8, 0, 0, 3, 0, 0⟩, none, 0, [], none, 0, [], [115], some ⟨g3, 0, none⟩, 1⟩, [8, 3, 1, 115]),
  (⟨⟨2, 1, 0, 0, 0, 4⟩, some ⟨g5, 0, none⟩, 1, [(⟨6, 1, 2⟩, ([121], some ⟨g4, 0, none⟩, 1))], none, 0, [], [], none, 0⟩, [2, 1, 0, 4, 1, 6, 1, 2, 1, 121]),
  (⟨⟨7, 0, 0, 18446744073709551615, 0, 0⟩, none, 0, [], some ⟨g2, 0, none⟩, 1, [([120], some ⟨g1, 0, none⟩, 1)], [], none, 0⟩, [7, 255, 255, 255, 255, 255, 255, 255, 255, 255, 1, 1, 1, 120]),
  (⟨⟨5, 0, 0, 5, 5, 0⟩, none, 0, [], none, 0, [], [], none, 0⟩, [5, 0, 0, 5, 5]),
  (⟨⟨0, 0, 0, 0, 0, 0⟩, none, 0, [], none, 0, [], [], none, 0⟩, []),
  (⟨⟨9, 0, 0, 0, 0, 0⟩, none, 0, [], none, 0, [], [], none, 0⟩, []),
  (⟨⟨1, 0, 7, 0, 0, 0⟩, none, 0, [], none, 0, [], [], none, 0⟩, []),
  (⟨⟨1, 0, (-1), 0, 0, 0⟩, none, 0, [], none, 0, [], [], none, 0⟩, []),
  (⟨⟨6, 0, 0, 0, 0, 0⟩, none, 0, [], none, 0, [], [], none, 0⟩, []),
  (⟨⟨6, 2, 1, 1, 0, 0⟩, none, 0, [], none, 0, [], [], none, 0⟩, []),
  (⟨⟨6, 0, 0, 1, 1, 0⟩, none, 0, [], none, 0, [], [], none, 0⟩, []),
  (⟨⟨6, 0, 0, 1, 0, 1⟩, none, 0, [], none, 0, [], [], none, 0⟩, []),
  (⟨⟨5, 0, 0, 5, 4, 0⟩, none, 0, [], none, 0, [], [], none, 0⟩, []),
  (⟨⟨7, 0, 0, 1, 0, 0⟩, none, 0, [], none, 0, [], [], none, 0⟩, []),
  (⟨⟨7, 0, 0, 18446744073709551615, 0, 0⟩, none, 0, [], some ⟨g6, 0, none⟩, 2, [([], none, 0), ([], none, 0)], [], none, 0⟩, []),
  (⟨⟨1, 0, 0, 1, 0, 0⟩, none, 0, [], none, 0, [], [], none, 0⟩, []),
  (⟨⟨1, 0, 0, 0, 0, 0⟩, none, 0, [], none, 0, [], [115], some ⟨g7, 0, none⟩, 1⟩, []),
  (⟨⟨1, 0, 0, 0, 0, 0⟩, none, 0, [], some ⟨g2, 0, none⟩, 1, [([120], some ⟨g1, 0, none⟩, 1)], [], none, 0⟩, []),
  (⟨⟨1, 0, 0, 0, 0, 0⟩, some ⟨g8, 0, none⟩, 1, [(⟨0, 0, 0⟩, ([], none, 0))], none, 0, [], [], none, 0⟩, []),
  (⟨⟨2, 0, 0, 0, 0, 6⟩, some ⟨g9, 0, none⟩, 1, [(⟨6, 0, 0⟩, ([], none, 0))], none, 0, [], [], none, 0⟩, []),
  (⟨⟨2, 0, 0, 0, 0, 0⟩, some ⟨g10, 0, none⟩, 2, [(⟨6, 0, 0⟩, ([], none, 0)), (⟨6, 0, 0⟩, ([], none, 0))], none, 0, [], [], none, 0⟩, []),
  (⟨⟨2, 0, 0, 0, 0, 0⟩, some ⟨g11, 0, none⟩, 1, [(⟨6, 0, 7⟩, ([], none, 0))], none, 0, [], [], none, 0⟩, []),
  (⟨⟨4, 0, 0, 1, 0, 0⟩, none, 0, [], some ⟨g12, 0, none⟩, 17, List.replicate 17 ([], none, 0), [], none, 0⟩, [])]
def D30 : List (Md × List UInt8) := [
  (⟨⟨1, 2, 1, 0, 0, 0⟩, [], [], []⟩, [1, 2, 1]),
  (⟨⟨2, 2, 1, 0, 0, 0⟩, [], [], []⟩, [2, 2, 1, 0, 0]),
  (⟨⟨3, 2, 1, 0, 0, 0⟩, [], [], []⟩, [3, 2, 1]),
  (⟨⟨4, 2, 1, 1, 0, 0⟩, [], [], []⟩, [4, 2, 1, 0, 1, 0]),
  (⟨⟨5, 2, 1, 5, 7, 0⟩, [], [], []⟩, [5, 2, 1, 5, 7]),
  (⟨⟨6, 0, 0, 3, 0, 0⟩, [], [], []⟩, [6, 3]),
  (⟨⟨7, 0, 0, 3, 0, 0⟩, [], [[120]], []⟩, [7, 3, 1, 1, 120]),
  (⟨⟨8, 0, 0, 3, 0, 0⟩, [], [], [115]⟩, [8, 3, 1, 115]),
  (⟨⟨2, 1, 0, 0, 0, 4⟩, [(⟨6, 1, 2⟩, [121])], [], []⟩, [2, 1, 0, 4, 1, 6, 1, 2, 1, 121]),
  (⟨⟨7, 0, 0, 18446744073709551615, 0, 0⟩, [], [[120]], []⟩, [7, 255, 255, 255, 255, 255, 255, 255, 255, 255, 1, 1, 1, 120]),
  (⟨⟨5, 0, 0, 5, 5, 0⟩, [], [], []⟩, [5, 0, 0, 5, 5]),
  (⟨⟨0, 0, 0, 0, 0, 0⟩, [], [], []⟩, []),
  (⟨⟨9, 0, 0, 0, 0, 0⟩, [], [], []⟩, []),
  (⟨⟨1, 0, 7, 0, 0, 0⟩, [], [], []⟩, []),
  (⟨⟨1, 0, (-1), 0, 0, 0⟩, [], [], []⟩, []),
  (⟨⟨6, 0, 0, 0, 0, 0⟩, [], [], []⟩, []),
  (⟨⟨6, 2, 1, 1, 0, 0⟩, [], [], []⟩, []),
  (⟨⟨6, 0, 0, 1, 1, 0⟩, [], [], []⟩, []),
  (⟨⟨6, 0, 0, 1, 0, 1⟩, [], [], []⟩, []),
  (⟨⟨5, 0, 0, 5, 4, 0⟩, [], [], []⟩, []),
  (⟨⟨7, 0, 0, 1, 0, 0⟩, [], [], []⟩, []),
  (⟨⟨7, 0, 0, 18446744073709551615, 0, 0⟩, [], [[], []], []⟩, []),
  (⟨⟨1, 0, 0, 1, 0, 0⟩, [], [], []⟩, []),
  (⟨⟨1, 0, 0, 0, 0, 0⟩, [], [], [115]⟩, []),
  (⟨⟨1, 0, 0, 0, 0, 0⟩, [], [[120]], []⟩, []),
  (⟨⟨1, 0, 0, 0, 0, 0⟩, [(⟨0, 0, 0⟩, [])], [], []⟩, []),
  (⟨⟨2, 0, 0, 0, 0, 6⟩, [(⟨6, 0, 0⟩, [])], [], []⟩, []),
  (⟨⟨2, 0, 0, 0, 0, 0⟩, [(⟨6, 0, 0⟩, []), (⟨6, 0, 0⟩, [])], [], []⟩, []),
  (⟨⟨2, 0, 0, 0, 0, 0⟩, [(⟨6, 0, 7⟩, [])], [], []⟩, []),
  (⟨⟨4, 0, 0, 1, 0, 0⟩, [], List.replicate 17 [], []⟩, [])]
theorem t30_data (g1 g2 g3 g4 g5 g6 g7 g8 g9 g10 g11 g12 : Nat) : (T30 g1 g2 g3 g4 g5 g6 g7 g8 g9 g10 g11 g12).map (fun r => (r.1.d, r.2)) = D30 := rfl
/-- What is said of a row. -/
def KnownRow (p : Md × List UInt8) : Prop := (p.2 = [] → ¬ MayM p.1) ∧ (p.2 ≠ [] → MayM p.1 ∧ insideB p.1 = p.2)
instance (p : Md × List UInt8) : Decidable (KnownRow p) := inferInstanceAs (Decidable (_ ∧ _))
theorem d30_known : ∀ p ∈ D30, KnownRow p := by decide +kernel
theorem t30_known (g1 g2 g3 g4 g5 g6 g7 g8 g9 g10 g11 g12 : Nat) : ∀ r ∈ T30 g1 g2 g3 g4 g5 g6 g7 g8 g9 g10 g11 g12, KnownRow (r.1.d, r.2) := by
  intro r hr
  refine d30_known _ ?_
  rw [← t30_data g1 g2 g3 g4 g5 g6 g7 g8 g9 g10 g11 g12]
  exact List.mem_map.2 ⟨r, hr, rfl⟩
def SizeRow (m : Mm) : Prop := WfH m.h ∧ (∀ v ∈ m.votes, WfV v.1 ∧ v.2.1.length ≤ 1 ∧ v.2.2.2 ≤ 1 ∧ v.2.1.length ≤ v.2.2.2) ∧ (∀ b ∈ m.batches, b.1.length ≤ 1 ∧ b.2.2 ≤ 1 ∧ b.1.length ≤ b.2.2) ∧ m.votes.length ≤ 17 ∧ m.batches.length ≤ 17 ∧ m.p.1.length ≤ 1 ∧ m.p.2.2 ≤ 1 ∧ m.p.1.length ≤ m.p.2.2
theorem SizeRow.wf {m : Mm} (h : SizeRow m) : WfM m := by
  obtain ⟨h1, h2, h3, h4, h5, h6, h7, h8⟩ := h
  exact ⟨h1, by omega, fun v hv => by have := h2 v hv; exact ⟨this.1, this.2.2.2, by omega⟩, by omega, fun b hb => by have := h3 b hb; exact ⟨this.2.2, by omega⟩, h8, by omega⟩
theorem SizeRow.small {m : Mm} (h : SizeRow m) : SmallM m := by
  obtain ⟨h1, h2, h3, h4, h5, h6, h7, h8⟩ := h
  exact ⟨by omega, fun v hv => by have := h2 v hv; omega, by omega, fun b hb => by have := h3 b hb; omega, by omega⟩
theorem t30_size (g1 g2 g3 g4 g5 g6 g7 g8 g9 g10 g11 g12 : Nat) : ∀ r ∈ T30 g1 g2 g3 g4 g5 g6 g7 g8 g9 g10 g11 g12, SizeRow r.1 := by
  unfold T30
  simp only [List.forall_mem_cons, List.not_mem_nil, false_implies, implies_true, and_true]
  simp [SizeRow, WfH, WfV]
/-- Rows of votes and of batches in a block. -/
theorem seesV_of {w : World} {g : Nat} {l : List Vm} {t : TypeId} {z : Nat × Nat} (h : w.heap[g]? = some (.cells (cellsV l).toArray t z)) (hs : ∀ v ∈ l, Sees w v.2.2.1 v.2.1) : SeesVs w (some ⟨g, 0, none⟩) l := by
  intro j hj
  have hc : ∀ i v, i < 4 → (voteC l[j])[i]? = some v → w.cell? ⟨g, j * 4 + i, none⟩ = some v := fun i v hi hv => by
    rw [cell_of_block h, List.getElem?_toArray, cellsV_at l j hj i hi, hv]
  refine ⟨g, 0, rfl, ?_, hs _ (List.getElem_mem hj)⟩
  simp only [Nat.zero_add]
  exact ⟨hc 0 _ (by omega) rfl, hc 1 _ (by omega) rfl, hc 2 _ (by omega) rfl, hc 3 _ (by omega) rfl⟩
theorem seesB_of {w : World} {g : Nat} {l : List Bs} {t : TypeId} {z : Nat × Nat} (h : w.heap[g]? = some (.cells (l.map bsV).toArray t z)) (hs : ∀ b ∈ l, Sees w b.2.1 b.1) : SeesBs w (some ⟨g, 0, none⟩) l := by
  intro j hj
  refine ⟨g, 0, rfl, ?_, hs _ (List.getElem_mem hj)⟩
  rw [Nat.zero_add, cell_of_block h, List.getElem?_toArray, List.getElem?_map, List.getElem?_eq_getElem hj]
  rfl
theorem sees1 {w : World} {g : Nat} {x : UInt8} {t : TypeId} {z : Nat × Nat} (h : w.heap[g]? = some (.cells #[u8v x] t z)) : Sees w (some ⟨g, 0, none⟩) [x] := by
  intro j hj
  have h0 : j = 0 := by simpa using hj
  subst h0
  exact ⟨g, 0, rfl, by rw [cell_of_block h]; rfl⟩
theorem seesV_nil (w : World) (ao : Option Addr) : SeesVs w ao [] := fun j hj => absurd hj (by simp)
theorem seesB_nil (w : World) (ao : Option Addr) : SeesBs w ao [] := fun j hj => absurd hj (by simp)
/-- The blocks of the table's messages. -/
structure Blocks (w : World) (g1 g2 g3 g4 g5 g6 g7 g8 g9 g10 g11 g12 : Nat) : Prop where
  b1 : ∃ z, w.heap[g1]? = some (Obj.cells #[u8v 120] 5 z)
  b2 : ∃ z, w.heap[g2]? = some (Obj.cells #[.slice (some ⟨g1, 0, none⟩) 1 1] 27 z)
  b3 : ∃ z, w.heap[g3]? = some (Obj.cells #[u8v 115] 5 z)
  b4 : ∃ z, w.heap[g4]? = some (Obj.cells #[u8v 121] 5 z)
  b5 : ∃ z, w.heap[g5]? = some (Obj.cells #[.int .u64 6, .int .u64 1, .int .i64 2, .slice (some ⟨g4, 0, none⟩) 1 1] 52 z)
  b6 : ∃ z, w.heap[g6]? = some (Obj.cells #[.slice none 0 0, .slice none 0 0] 27 z)
  b7 : ∃ z, w.heap[g7]? = some (Obj.cells #[u8v 115] 5 z)
  b8 : ∃ z, w.heap[g8]? = some (Obj.cells (madeCells (Value.cells (.agg #[.int .u64 0, .int .u64 0, .int .i64 0, .slice none 0 0])) (1 * 4)) 52 z)
  b9 : ∃ z, w.heap[g9]? = some (Obj.cells #[.int .u64 6, .int .u64 0, .int .i64 0, .slice none 0 0] 52 z)
  b10 : ∃ z, w.heap[g10]? = some (Obj.cells #[.int .u64 6, .int .u64 0, .int .i64 0, .slice none 0 0, .int .u64 6, .int .u64 0, .int .i64 0, .slice none 0 0] 52 z)
  b11 : ∃ z, w.heap[g11]? = some (Obj.cells #[.int .u64 6, .int .u64 0, .int .i64 7, .slice none 0 0] 52 z)
  b12 : ∃ z, w.heap[g12]? = some (Obj.cells (madeCells (Value.cells (.slice none 0 0)) (17 * 1)) 27 z)
theorem made_v : madeCells (Value.cells (.agg #[.int .u64 0, .int .u64 0, .int .i64 0, .slice none 0 0])) (1 * 4) = (cellsV [(⟨0, 0, 0⟩, ([], none, 0))]).toArray := by
  apply Array.toList_inj.1
  show ((Array.range 4).map (fun k => (#[Value.int .u64 0, .int .u64 0, .int .i64 0, .slice none 0 0] : Array Value)[k % 4]!)).toList = _
  rw [Array.toList_map, Array.toList_range]
  rfl
theorem made_b (n : Nat) : madeCells (Value.cells (.slice none 0 0)) (n * 1) = ((List.replicate n (([], none, 0) : Bs)).map bsV).toArray := by
  apply Array.toList_inj.1
  rw [Nat.mul_one]
  show (madeCells #[Value.slice none 0 0] n).toList = _
  rw [toList_madeCells_one, List.map_replicate]
  rfl
theorem ownV_sees {w : World} {ao : Option Addr} {c : Nat} {l : List Vm} (h : OwnV w ao c l) (hs : ∀ v ∈ l, Sees w v.2.2.1 v.2.1) : SeesVs w ao l := by
  intro j hj
  obtain ⟨g, h1, h2⟩ := h.at' hj
  refine ⟨g, 0, h1, ?_, hs _ (List.getElem_mem hj)⟩
  simp only [Nat.zero_add]
  exact ⟨(h2 0 _ (by omega) rfl).1, (h2 1 _ (by omega) rfl).1, (h2 2 _ (by omega) rfl).1, (h2 3 _ (by omega) rfl).1⟩
theorem ownM_sees {w : World} {ao : Option Addr} {c : Nat} {l : List Bs} (h : OwnM bsV w 27 ao c l) (hs : ∀ b ∈ l, Sees w b.2.1 b.1) : SeesBs w ao l := by
  intro j hj
  obtain ⟨g, h1, h2, _⟩ := h.at' hj
  exact ⟨g, 0, h1, by rw [Nat.zero_add]; exact h2, hs _ (List.getElem_mem hj)⟩
theorem t30_sees {w : World} {g1 g2 g3 g4 g5 g6 g7 g8 g9 g10 g11 g12 : Nat} (h : Blocks w g1 g2 g3 g4 g5 g6 g7 g8 g9 g10 g11 g12) : ∀ r ∈ T30 g1 g2 g3 g4 g5 g6 g7 g8 g9 g10 g11 g12, SeesM w r.1 := by
  obtain ⟨⟨z1, b1⟩, ⟨z2, b2⟩, ⟨z3, b3⟩, ⟨z4, b4⟩, ⟨z5, b5⟩, ⟨z6, b6⟩, ⟨z7, b7⟩, ⟨z8, b8⟩, ⟨z9, b9⟩, ⟨z10, b10⟩, ⟨z11, b11⟩, ⟨z12, b12⟩⟩ := h
  rw [made_v] at b8
  rw [made_b 17] at b12
  have hx : SeesBs w (some ⟨g2, 0, none⟩) [([120], some ⟨g1, 0, none⟩, 1)] := seesB_of (l := [([120], some ⟨g1, 0, none⟩, 1)]) b2 (by intro b hb; simp only [List.mem_singleton] at hb; subst hb; exact sees1 b1)
  have hn : ∀ (l : List Vm), (∀ v ∈ l, v.2.1 = []) → ∀ v ∈ l, Sees w v.2.2.1 v.2.1 := fun l hl v hv => by rw [hl v hv]; exact Sees.nil _ _
  have hnb : ∀ (l : List Bs), (∀ v ∈ l, v.1 = []) → ∀ v ∈ l, Sees w v.2.1 v.1 := fun l hl v hv => by rw [hl v hv]; exact Sees.nil _ _
  unfold T30
  simp only [List.forall_mem_cons, List.not_mem_nil, false_implies, implies_true, and_true]
  refine ⟨⟨seesV_nil _ _, seesB_nil _ _, Sees.nil _ _⟩,
    ⟨seesV_nil _ _, seesB_nil _ _, Sees.nil _ _⟩,
    ⟨seesV_nil _ _, seesB_nil _ _, Sees.nil _ _⟩,
    ⟨seesV_nil _ _, seesB_nil _ _, Sees.nil _ _⟩,
    ⟨seesV_nil _ _, seesB_nil _ _, Sees.nil _ _⟩,
    ⟨seesV_nil _ _, seesB_nil _ _, Sees.nil _ _⟩,
    ⟨seesV_nil _ _, hx, Sees.nil _ _⟩,
    ⟨seesV_nil _ _, seesB_nil _ _, sees1 b3⟩,
    ⟨seesV_of (l := [(⟨6, 1, 2⟩, ([121], some ⟨g4, 0, none⟩, 1))]) b5 (by intro v hv; simp only [List.mem_singleton] at hv; subst hv; exact sees1 b4), seesB_nil _ _, Sees.nil _ _⟩,
    ⟨seesV_nil _ _, hx, Sees.nil _ _⟩,
    ⟨seesV_nil _ _, seesB_nil _ _, Sees.nil _ _⟩,
    ⟨seesV_nil _ _, seesB_nil _ _, Sees.nil _ _⟩,
    ⟨seesV_nil _ _, seesB_nil _ _, Sees.nil _ _⟩,
    ⟨seesV_nil _ _, seesB_nil _ _, Sees.nil _ _⟩,
    ⟨seesV_nil _ _, seesB_nil _ _, Sees.nil _ _⟩,
    ⟨seesV_nil _ _, seesB_nil _ _, Sees.nil _ _⟩,
    ⟨seesV_nil _ _, seesB_nil _ _, Sees.nil _ _⟩,
    ⟨seesV_nil _ _, seesB_nil _ _, Sees.nil _ _⟩,
    ⟨seesV_nil _ _, seesB_nil _ _, Sees.nil _ _⟩,
    ⟨seesV_nil _ _, seesB_nil _ _, Sees.nil _ _⟩,
    ⟨seesV_nil _ _, seesB_nil _ _, Sees.nil _ _⟩,
    ⟨seesV_nil _ _, seesB_of (l := [([], none, 0), ([], none, 0)]) b6 (hnb _ (by simp)), Sees.nil _ _⟩,
    ⟨seesV_nil _ _, seesB_nil _ _, Sees.nil _ _⟩,
    ⟨seesV_nil _ _, seesB_nil _ _, sees1 b7⟩,
    ⟨seesV_nil _ _, hx, Sees.nil _ _⟩,
    ⟨seesV_of (l := [(⟨0, 0, 0⟩, ([], none, 0))]) b8 (hn _ (by simp)), seesB_nil _ _, Sees.nil _ _⟩,
    ⟨seesV_of (l := [(⟨6, 0, 0⟩, ([], none, 0))]) b9 (hn _ (by simp)), seesB_nil _ _, Sees.nil _ _⟩,
    ⟨seesV_of (l := [(⟨6, 0, 0⟩, ([], none, 0)), (⟨6, 0, 0⟩, ([], none, 0))]) b10 (hn _ (by simp)), seesB_nil _ _, Sees.nil _ _⟩,
    ⟨seesV_of (l := [(⟨6, 0, 7⟩, ([], none, 0))]) b11 (hn _ (by simp)), seesB_nil _ _, Sees.nil _ _⟩,
    ⟨seesV_nil _ _, seesB_of (l := List.replicate 17 (([], none, 0) : Bs)) b12 (hnb _ (by simp)), Sees.nil _ _⟩⟩
/-- A row's ten values. -/
def rowC (r : Mm × List UInt8) : List Value := (mC (.int .u8 (r.1.h.kind : Int)) r.1).toList ++ [strV r.2]
theorem rows_at (l : List (Mm × List UInt8)) : ∀ (j : Nat) (hj : j < l.length) (i : Nat), i < 10 → (l.flatMap rowC)[j * 10 + i]? = (rowC l[j])[i]? := by
  induction l with
  | nil => intro j hj; simp at hj
  | cons x l ih =>
    intro j hj i hi
    have hx : (rowC x).length = 10 := rfl
    rw [List.flatMap_cons]
    cases j with
    | zero =>
      rw [Nat.zero_mul, Nat.zero_add, List.getElem?_append_left (by omega)]
      rfl
    | succ j =>
      rw [List.getElem?_append_right (by omega), hx, show (j + 1) * 10 + i - 10 = j * 10 + i by omega]
      exact ih j (by simpa using hj) i hi
theorem row_cells {w : World} {g : Nat} {L : List (Mm × List UInt8)} {t : TypeId} {z : Nat × Nat} (h : w.heap[g]? = some (.cells (L.flatMap rowC).toArray t z)) {i : Nat} (hi : i < L.length) :
    ∃ (k bn br f l c : Int) (vo : Option Addr) (vl vc : Nat) (so : Option Addr) (bl sc : Nat) (po : Option Addr) (sl pc : Nat), msgV L[i].1 = .agg #[.int .u8 k, .int .u64 bn, .int .i64 br, .int .u64 f, .int .u64 l, .int .u64 c, .slice vo vl vc, .slice so bl sc, .slice po sl pc] ∧ ∀ w', Mod [] w w' →
      w'.cell? ⟨g, i * 10, none⟩ = some (.int .u8 k) ∧ w'.cell? ⟨g, i * 10 + 1, none⟩ = some (.int .u64 bn) ∧ w'.cell? ⟨g, i * 10 + 2, none⟩ = some (.int .i64 br) ∧ w'.cell? ⟨g, i * 10 + 3, none⟩ = some (.int .u64 f) ∧ w'.cell? ⟨g, i * 10 + 4, none⟩ = some (.int .u64 l) ∧ w'.cell? ⟨g, i * 10 + 5, none⟩ = some (.int .u64 c) ∧ w'.cell? ⟨g, i * 10 + 6, none⟩ = some (.slice vo vl vc) ∧ w'.cell? ⟨g, i * 10 + 7, none⟩ = some (.slice so bl sc) ∧ w'.cell? ⟨g, i * 10 + 8, none⟩ = some (.slice po sl pc) ∧ w'.cell? ⟨g, i * 10 + 9, none⟩ = some (strV L[i].2) := by
  refine ⟨_, _, _, _, _, _, _, _, _, _, _, _, _, _, _, rfl, fun w' m => ?_⟩
  have h2 := m.get h List.not_mem_nil
  have hc : ∀ j v, j < 10 → (rowC L[i])[j]? = some v → w'.cell? ⟨g, i * 10 + j, none⟩ = some v := fun j v hj hv => by
    rw [cell_of_block h2, List.getElem?_toArray, rows_at L i hi j hj, hv]
  exact ⟨hc 0 _ (by omega) rfl, hc 1 _ (by omega) rfl, hc 2 _ (by omega) rfl, hc 3 _ (by omega) rfl, hc 4 _ (by omega) rfl, hc 5 _ (by omega) rfl, hc 6 _ (by omega) rfl, hc 7 _ (by omega) rfl, hc 8 _ (by omega) rfl, hc 9 _ (by omega) rfl⟩
end Go.Proofs.YtekdnljincbghaaDoor
