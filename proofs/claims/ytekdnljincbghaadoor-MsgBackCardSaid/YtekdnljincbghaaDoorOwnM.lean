/- Rows of the call's own whose elements have one cell each, by what they show. Over any program. -/
import Derived.Test.YtekdnljincbghaaDoorOwn
namespace Go.Proofs.YtekdnljincbghaaDoor
open Go Go.RowKit

/-- A row of elements of one cell each; f says what a cell holds. -/
def OwnM {α : Type} (f : α → Value) (w : World) (e : TypeId) (ao : Option Addr) (cap : Nat) (l : List α) : Prop := Own w e 1 ao l.length cap (l.map f)
section
variable {α : Type} {f : α → Value} {w w' : World} {e : TypeId} {ao : Option Addr} {cap : Nat} {l : List α}
theorem OwnM.nil (f : α → Value) (w : World) (e : TypeId) : OwnM f w e none 0 [] := Own.nil0 w e 1
theorem OwnM.mod {S : List Nat} (h : OwnM f w e ao cap l) (hm : Mod S w w') (hn : ∀ k, k ∈ blk ao → k ∉ S) : OwnM f w' e ao cap l := Own.mod h hm hn
theorem OwnM.mod0 (h : OwnM f w e ao cap l) (hm : Mod [] w w') : OwnM f w' e ao cap l := Own.mod0 h hm
theorem OwnM.lt (h : OwnM f w e ao cap l) : ∀ k, k ∈ blk ao → k < w.heap.size := Own.lt h
theorem OwnM.le (h : OwnM f w e ao cap l) : l.length ≤ cap := Own.le h
theorem OwnM.at' (h : OwnM f w e ao cap l) {j : Nat} (hj : j < l.length) : ∃ g, ao = some ⟨g, 0, none⟩ ∧ w.cell? ⟨g, j, none⟩ = some (f l[j]) ∧ w.frozen? ⟨g, j, none⟩ = false :=
  Own.cell h (j := j) (u := f l[j]) (by rw [List.getElem?_map, List.getElem?_eq_getElem hj]; rfl)
theorem OwnM.set {g j : Nat} (h : OwnM f w e (some ⟨g, 0, none⟩) cap l) (x : α) : OwnM f (w.setCell ⟨g, j, none⟩ (f x)) e (some ⟨g, 0, none⟩) cap (l.set j x) := by
  have := Own.set (j := j) h (f x)
  unfold OwnM
  rw [List.length_set, List.map_set]
  exact this
theorem OwnM.shows (h : OwnM f w e ao cap l) : Shows w ao (l.map f) := Own.shows h
theorem OwnM.tail {x : α} (h : OwnM f w e ao cap (x :: l)) : ∃ g, ao = some ⟨g, 0, none⟩ ∧ (l ≠ [] → 1 < cap) ∧ Shows w (some ⟨g, 1, none⟩) (l.map f) := by
  obtain ⟨g, rfl, _⟩ := h.at' (j := 0) (by simp)
  refine ⟨g, rfl, fun hl => ?_, ?_⟩
  · have := h.le
    have := List.length_pos_iff.2 hl
    simp at *
    omega
  · intro j u hj
    obtain ⟨ad, e1, e2⟩ := h.shows (j + 1) u (by simpa using hj)
    cases e1
    refine ⟨_, rfl, ?_⟩
    rw [Addr.add_lit] at e2 ⊢
    rw [show 1 + j = 0 + (j + 1) by omega]
    exact e2
theorem shows_one {g : Nat} {t : TypeId} {z : Nat × Nat} {x : α} (h : w.heap[g]? = some (.cells #[f x] t z)) : Shows w (some ⟨g, 0, none⟩) ([x].map f) := by
  intro j u hj
  refine ⟨_, rfl, ?_⟩
  rw [Addr.add_lit, cell_of_block h, Nat.zero_add, ← hj]
  simp
theorem Shows.nil (w : World) (ao : Option Addr) : Shows w ao [] := fun j u hj => by simp at hj
theorem OwnM.one {g : Nat} {x : α} (h : w.heap[g]? = some (.cells #[f x] e (0, 0))) : OwnM f w e (some ⟨g, 0, none⟩) 1 [x] :=
  Own.new (sz := 1) (n := 1) h (.inl rfl) (by simp) (by unfold maxLen; omega)
/-- append to such a row. -/
theorem wpl_appM {P : Program} {ops : Array Oper} {rest : List Oper} {a : Act} {Q : Exit → Act → World → Prop} {dst : Option Tmp} {ty : TypeId} {pos : String} {after : Array Edge} (s x : Operand) (t : TypeId)
    (z : Value) (bytes : Nat) (ht : P.underlying t = some (.slice e)) (hi : (P.info? e).map (fun i => (i.zero, i.size, i.bytes)) = some (some z, 1, bytes)) (hzs : z.cells.size = 1) (h1 : ∀ x, (f x).oneCell' = true)
    (n : Nat) (xs : List α) (hs : a.eval s = .slice ao n cap) (hn : xs.length = n) (hown : OwnM f w e ao cap xs)
    (so : Option Addr) (m c : Nat) (ys : List α) (hx : a.eval x = .slice so m c) (hm : ys.length = m) (hsh : Shows w so (ys.map f)) (hb : (n + m) * bytes ≤ 140737488355328) (hb2 : n + m ≤ 140737488355328)
    (h : ∀ ao' cap' w', OwnM f w' e ao' cap' (xs ++ ys) → Mod (blk ao) w w' → SameOrNew w w' ao ao' → wpList P ops Q rest (a.put dst (.slice ao' (n + m) cap')) w') :
    wpList P ops Q (⟨dst, .call { callee := .builtin .append, args := #[s, x], argTypes := #[t, t] }, ty, pos, after, none⟩ :: rest) a w := by
  obtain ⟨i0, hi, hz0, hz1, hz2⟩ := info_parts hi
  subst hn hm
  refine wpl_append w rfl s x t rfl e i0 z 1 bytes ht hi hz0 hz1 hz2 hzs (by decide) ao _ cap _ hs hown so _ c (ys.map f) hx (by simp) hsh ?_ (by unfold maxLen; omega) hb ?_
  · intro u hu
    obtain ⟨x, _, rfl⟩ := List.mem_map.1 hu
    exact h1 x
  · intro ao' cap' w' h1 h2 h3
    refine h ao' cap' w' ?_ h2 h3
    unfold OwnM
    rw [List.length_append, List.map_append]
    exact h1
end
/-- Two rows lie apart. -/
def Dis (x y : Option Addr) : Prop := ∀ j, j ∈ blk x → j ∉ blk y
theorem Dis.symm {x y : Option Addr} (h : Dis x y) : Dis y x := fun j hj hk => h j hk hj
theorem Dis.new {x x' y : Option Addr} {w w' : World} (h : Dis x y) (s : SameOrNew w w' x x') (hl : ∀ j, j ∈ blk y → j < w.heap.size) : Dis x' y := fun j hj hk => by
  rcases s.blk j hj with h1 | h1
  · exact h j h1 hk
  · have := hl j hk; omega
theorem Dis.fresh {x y : Option Addr} {B : Nat} (h : ∀ j, j ∈ blk x → B ≤ j) (hl : ∀ j, j ∈ blk y → j < B) : Dis x y := fun j hj hk => by
  have := h j hj; have := hl j hk; omega
theorem off_new {g : Nat} {x x' : Option Addr} {w w' : World} (h : g ∉ blk x) (s : SameOrNew w w' x x') (hl : g < w.heap.size) : g ∉ blk x' := fun hj => by
  rcases s.blk g hj with h1 | h1
  · exact h h1
  · omega
theorem Dis.sing {g : Nat} {y : Option Addr} (h : Dis (some ⟨g, 0, none⟩) y) : g ∉ blk y := h g (by simp [blk])
end Go.Proofs.YtekdnljincbghaaDoor
