/- From data that came in to what the walks see of it, with the reach of what lies down in it. Over any program. -/
import Derived.Test.YtfpmdacpmcdleaaShut2
import Derived.SizedLaws
namespace Go.Proofs.Ytfpmdacpmcdleaa
open Go Go.ChangeShapes Go.WideShapes Go.ChangeAt Go.RowKit

section
variable {H : Type} {enc : TypeId × Value → H} {P : Program} {W : World} {base : Nat} {sp : Nat → Bool} {held : Bool}
/-- All that is read in it is within the reach. -/
def Light (P : Program) (t : TypeId) (d : DataW H) : Prop := ∀ x ∈ DataW.weights P t d, x ≤ 140737488351232
theorem light_of {ts : List TypeId} {ds : List (DataW H)} (h : (DataW.weightsEach P ts ds).all (· ≤ reachBytes) = true) {j : Nat} {t : TypeId} {d : DataW H} (ht : ts[j]? = some t) (hd : ds[j]? = some d) : Light P t d := fun x hx => by
  have := List.all_eq_true.1 h x (DataW.weights_mem_each ht hd x hx)
  exact of_decide_eq_true this
theorem weightsAll_mem {e : TypeId} : ∀ {l : List (DataW H)} {d : DataW H}, d ∈ l → ∀ n ∈ DataW.weights P e d, n ∈ DataW.weightsAll P e l
  | a :: l, d, hd, n, hn => by
    simp only [DataW.weightsAll, List.mem_append]
    rcases List.mem_cons.1 hd with rfl | hd
    · exact .inl hn
    · exact .inr (weightsAll_mem hd n hn)
theorem Light.elem {t e : TypeId} {elems spare : List (DataW H)} (ht : P.underlying t = some (.slice e)) (h : Light P t (.slice elems spare)) {d : DataW H} (hd : d ∈ elems) : Light P e d := fun x hx => h x (by
  simp only [DataW.weights, ht, List.mem_cons, List.mem_append]
  exact .inr (.inl (weightsAll_mem hd x hx)))
theorem Light.len {t e : TypeId} {elems spare : List (DataW H)} (ht : P.underlying t = some (.slice e)) (h : Light P t (.slice elems spare)) : (elems.length + spare.length) * P.bytesOf e ≤ 140737488351232 := h _ (by simp [DataW.weights, ht])
theorem Light.part {t : TypeId} {fs : Array Field} {parts : List (DataW H)} (ht : P.underlying t = some (.struct fs)) (h : Light P t (.agg parts)) {j : Nat} {f : Field} {d : DataW H} (hf : fs.toList[j]? = some f) (hd : parts[j]? = some d) : Light P f.type d := fun x hx => h x (by
  simp only [DataW.weights, ht]
  exact DataW.weights_mem_each (j := j) (by rw [List.getElem?_map, hf]; rfl) hd x hx)
theorem Light.str {t : TypeId} {bytes : List UInt8} (h : Light P t (H := H) (.lit (.string bytes))) : bytes.length ≤ 140737488351232 := h _ (by simp [DataW.weights])

/-- A slice of bytes that came in. -/
theorem sees_of_light {t e : TypeId} {ao : Option Addr} {len cap : Nat} {d : DataW H} {p : List MemPlace} (ht : P.underlying t = some (.slice e)) (he : P.underlying e = some (.int .u8)) (hc : P.cellsOf e = 1) (hb : P.bytesOf e = 1)
    (h : DataW.Trod enc P W base sp held t (Value.slice ao len cap) d p) (hw : Light P t d) :
    ∃ l : List UInt8, l.length = len ∧ len ≤ cap ∧ cap ≤ 9223372036854775807 ∧ Sees W ao l ∧ len ≤ 140737488351232 := by
  obtain ⟨l, l1, l2, l3, l4⟩ := sees_of_trod ht he hc h
  refine ⟨l, l1, l2, l3, l4, ?_⟩
  obtain ⟨fuel, hf⟩ := h
  rcases DataW.trod_slice ht hf with ⟨hcs, _⟩ | ⟨a, len', cap', elems, rest, n, _, hcs, hx, _, _, _, hlen, _⟩
  · simp [Value.cells] at hcs
    omega
  · simp [Value.cells] at hcs
    simp only [Prod.mk.injEq] at hx
    obtain ⟨rfl, _⟩ := hx
    have := hw.len ht
    rw [hb] at this
    simp only [List.length_map] at this
    omega

/-- A slice that came in: each element by what its cells read as. -/
theorem list_of_light {X : Type} {t e : TypeId} {ao : Option Addr} {len cap sz : Nat} {d : DataW H} {p : List MemPlace} (R : List Value → X → Prop) (ht : P.underlying t = some (.slice e)) (hsz : P.cellsOf e = sz) (hpos : 0 < sz)
    (hR : ∀ n cs y, DataW.trod enc P W base sp held n e cs = some y → Light P e y.1 → ∃ x, R cs x)
    (h : DataW.Trod enc P W base sp held t (Value.slice ao len cap) d p) (hw : Light P t d) :
    ∃ l : List X, l.length = len ∧ len ≤ cap ∧ cap ≤ 9223372036854775807 ∧
      ∀ j (hj : j < l.length), ∃ b off cs, ao = some ⟨b, off, none⟩ ∧ R cs l[j] ∧ cs.length = sz ∧ ∀ i, i < sz → W.cell? ⟨b, off + j * sz + i, none⟩ = cs[i]? := by
  obtain ⟨fuel, hf⟩ := h
  rcases DataW.trod_slice ht hf with ⟨hcs, _⟩ | ⟨a, len', cap', elems, rest, n, _, hcs, hx, hb, hl, hm, hlen, hel, hsp, hns⟩
  · simp [Value.cells] at hcs
    obtain ⟨rfl, rfl, rfl⟩ := hcs
    exact ⟨[], rfl, by omega, by omega, fun j hj => absurd hj (by simp)⟩
  · simp [Value.cells] at hcs
    obtain ⟨rfl, rfl, rfl⟩ := hcs
    simp only [Prod.mk.injEq] at hx
    obtain ⟨rfl, _⟩ := hx
    have each : ∀ i, i < len → ∃ x, ∃ b off cs, some a = some ⟨b, off, none⟩ ∧ R cs x ∧ cs.length = sz ∧ ∀ k, k < sz → W.cell? ⟨b, off + i * sz + k, none⟩ = cs[k]? := by
      intro i hi
      have h1 := hel i hi
      have hi2 : i < elems.length := by omega
      rw [List.getElem?_eq_getElem hi2, Option.bind_eq_some_iff] at h1
      obtain ⟨cs, hc, hy⟩ := h1
      obtain ⟨x, hx⟩ := hR n cs _ hy (hw.elem ht (List.mem_map.2 ⟨elems[i], List.getElem_mem hi2, rfl⟩))
      rw [hsz] at hc
      obtain ⟨q1, q2, q3⟩ := World.cells?_some hc
      have hs : a.spot = none := by
        have g1 := hel 0 (by omega)
        rw [List.getElem?_eq_getElem (by omega), Option.bind_eq_some_iff] at g1
        obtain ⟨cs0, g2, _⟩ := g1
        rw [hsz, Nat.zero_mul, Addr.add_zero'] at g2
        obtain ⟨_, g3, g4⟩ := World.cells?_some g2
        have g5 := g4 0 hpos
        rw [List.getElem?_eq_getElem (by omega), Addr.add_zero'] at g5
        exact spot_none_of_cell g5
      obtain ⟨b, off, spot⟩ := a
      simp only at hs
      subst hs
      exact ⟨x, b, off, cs, rfl, hx, q2, fun k hk => by have := q3 k hk; rw [Addr.add_lit, Addr.add_lit] at this; exact this⟩
    obtain ⟨l, hl1, hl2⟩ := choose_list len each
    exact ⟨l, hl1, hl, by unfold maxLen at hm; omega, hl2⟩
end
end Go.Proofs.Ytfpmdacpmcdleaa
