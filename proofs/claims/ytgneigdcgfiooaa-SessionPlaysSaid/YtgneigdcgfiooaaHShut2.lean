/- From data that came in to what the walks see of it: slices of whatever, structs. Over any program. -/
import Derived.Test.YtgneigdcgfiooaaHShut
namespace Go.Proofs.Ytgneigdcgfiooaa
open Go Go.ChangeShapes Go.WideShapes Go.ChangeAt Go.RowKit

section
variable {H : Type} {enc : TypeId × Value → H} {P : Program} {W : World} {base : Nat} {sp : Nat → Bool} {held : Bool}

theorem spot_none_of_cell {W : World} {a : Addr} {v : Value} (h : W.cell? a = some v) : a.spot = none := by
  obtain ⟨b, off, spot⟩ := a
  cases spot with
  | none => rfl
  | some x => simp [World.cell?] at h; split at h <;> simp_all

theorem choose_list {X : Type} {p : Nat → X → Prop} : ∀ (n : Nat), (∀ i, i < n → ∃ x, p i x) → ∃ l : List X, l.length = n ∧ ∀ i (h : i < l.length), p i l[i]
  | 0, _ => ⟨[], rfl, fun i h => absurd h (by simp)⟩
  | n + 1, h => by
    obtain ⟨l, hl, hp⟩ := choose_list n (fun i hi => h i (by omega))
    obtain ⟨x, hx⟩ := h n (by omega)
    refine ⟨l ++ [x], by simp [hl], fun i hi => ?_⟩
    by_cases hi' : i < l.length
    · rw [List.getElem_append_left hi']; exact hp i hi'
    · have : i = n := by simp at hi; omega
      subst this
      simp [hl, hx]

/-- A slice that came in: each element by what its cells read as. -/
theorem list_of_trod {X : Type} {t e : TypeId} {ao : Option Addr} {len cap sz : Nat} {d : DataW H} {p : List MemPlace} (R : List Value → X → Prop) (ht : P.underlying t = some (.slice e)) (hsz : P.cellsOf e = sz) (hpos : 0 < sz)
    (hR : ∀ n cs y, DataW.trod enc P W base sp held n e cs = some y → ∃ x, R cs x)
    (h : DataW.Trod enc P W base sp held t (Value.slice ao len cap) d p) :
    ∃ l : List X, l.length = len ∧ len ≤ cap ∧ cap ≤ 9223372036854775807 ∧
      ∀ j (hj : j < l.length), ∃ b off cs, ao = some ⟨b, off, none⟩ ∧ R cs l[j] ∧ cs.length = sz ∧ ∀ i, i < sz → W.cell? ⟨b, off + j * sz + i, none⟩ = cs[i]? := by
  obtain ⟨fuel, hf⟩ := h
  rcases DataW.trod_slice ht hf with ⟨hcs, _⟩ | ⟨a, len', cap', elems, rest, n, _, hcs, _, hb, hl, hm, hlen, hel, hsp, hns⟩
  · simp [Value.cells] at hcs
    obtain ⟨rfl, rfl, rfl⟩ := hcs
    exact ⟨[], rfl, by omega, by omega, fun j hj => absurd hj (by simp)⟩
  · simp [Value.cells] at hcs
    obtain ⟨rfl, rfl, rfl⟩ := hcs
    have each : ∀ i, i < len → ∃ x, ∃ b off cs, some a = some ⟨b, off, none⟩ ∧ R cs x ∧ cs.length = sz ∧ ∀ k, k < sz → W.cell? ⟨b, off + i * sz + k, none⟩ = cs[k]? := by
      intro i hi
      have h1 := hel i hi
      rw [List.getElem?_eq_getElem (by omega), Option.bind_eq_some_iff] at h1
      obtain ⟨cs, hc, hy⟩ := h1
      obtain ⟨x, hx⟩ := hR n cs _ hy
      rw [hsz] at hc
      obtain ⟨q1, q2, q3⟩ := World.cells?_some hc
      have hs : a.spot = none := by
        have g1 := hel 0 (by omega)
        rw [List.getElem?_eq_getElem (by omega), Option.bind_eq_some_iff] at g1
        obtain ⟨cs0, g2, _⟩ := g1
        rw [hsz, Nat.zero_mul, Addr.add_zero'] at g2
        obtain ⟨_, g3, g4⟩ := World.cells?_some g2
        have g5 := g4 0 hpos
        rw [List.getElem?_eq_getElem (by omega), Addr.add_zero'] at g5
        exact spot_none_of_cell g5
      obtain ⟨b, off, spot⟩ := a
      simp only at hs
      subst hs
      exact ⟨x, b, off, cs, rfl, hx, q2, fun k hk => by have := q3 k hk; rw [Addr.add_lit, Addr.add_lit] at this; exact this⟩
    obtain ⟨l, hl1, hl2⟩ := choose_list len each
    exact ⟨l, hl1, hl, by unfold maxLen at hm; omega, hl2⟩

/-- A struct of two integers. -/
theorem pair_of_trod {t : TypeId} {f0 f1 : Field} {k0 k1 : IntKind} {n : Nat} {cs : List Value} {y : DataW H × List MemPlace} (ht : P.underlying t = some (.struct #[f0, f1])) (hs : P.cellsOf t = 2)
    (h0 : P.underlying f0.type = some (.int k0)) (h1 : P.underlying f1.type = some (.int k1)) (o0 : f0.offset = 0) (o1 : f1.offset = 1) (c0 : P.cellsOf f0.type = 1) (c1 : P.cellsOf f1.type = 1)
    (h : DataW.trod enc P W base sp held n t cs = some y) : ∃ x0 x1 : Int, cs = [.int k0 x0, .int k1 x1] ∧ (Lit.int k0 x0).wf = true ∧ (Lit.int k1 x1).wf = true := by
  obtain ⟨y0, y1, m, _, hl, e0, e1⟩ := trod_struct2 ht h
  rw [hs] at hl
  match cs, hl with
  | [a, b], _ =>
    rw [o0, c0] at e0
    rw [o1, c1] at e1
    obtain ⟨x0, hx0, _, w0⟩ := DataW.trod_int h0 e0
    obtain ⟨x1, hx1, _, w1⟩ := DataW.trod_int h1 e1
    simp at hx0 hx1
    exact ⟨x0, x1, by rw [hx0, hx1], w0, w1⟩
end

end Go.Proofs.Ytgneigdcgfiooaa
