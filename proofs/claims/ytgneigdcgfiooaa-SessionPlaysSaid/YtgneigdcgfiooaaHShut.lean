/- From data that came in to what the walks see of it. Over any program. -/
import Derived.Test.YtgneigdcgfiooaaZ1
import Derived.ProofKit
import Derived.OpenShut
import Derived.ShutString
import Derived.ChangeOld
namespace Go.Proofs.Ytgneigdcgfiooaa
open Go Go.ChangeShapes Go.WideShapes Go.ChangeAt Go.RowKit

section
variable {H : Type} {enc : TypeId × Value → H} {P : Program} {W : World} {base : Nat} {sp : Nat → Bool} {held : Bool}
theorem byte_of_wf {n : Int} (h : (Lit.int .u8 n).wf = true) : ∃ x : UInt8, ((x.toNat : Nat) : Int) = n := by
  have h1 : 0 ≤ n ∧ n ≤ 255 := by
    simp only [Lit.wf, Bool.and_eq_true, decide_eq_true_eq] at h
    have e1 : IntKind.u8.min = 0 := by decide
    have e2 : IntKind.u8.max = 255 := by decide
    omega
  refine ⟨UInt8.ofNat n.toNat, ?_⟩
  rw [UInt8.toNat_ofNat']
  omega
theorem bytes_of_wf : ∀ (zs : List Int), (∀ n ∈ zs, (Lit.int .u8 n).wf = true) → ∃ l : List UInt8, l.map (fun x => ((x.toNat : Nat) : Int)) = zs
  | [], _ => ⟨[], rfl⟩
  | n :: zs, h => by
    obtain ⟨x, hx⟩ := byte_of_wf (h n (by simp))
    obtain ⟨l, hl⟩ := bytes_of_wf zs (fun m hm => h m (by simp [hm]))
    exact ⟨x :: l, by simp [hx, hl]⟩
/-- A slice of bytes that came in. -/
theorem sees_of_trod {t e : TypeId} {ao : Option Addr} {len cap : Nat} {d : DataW H} {p : List MemPlace} (ht : P.underlying t = some (.slice e)) (he : P.underlying e = some (.int .u8)) (hc : P.cellsOf e = 1)
    (h : DataW.Trod enc P W base sp held t (Value.slice ao len cap) d p) :
    ∃ l : List UInt8, l.length = len ∧ len ≤ cap ∧ cap ≤ 9223372036854775807 ∧ Sees W ao l := by
  obtain ⟨fuel, hf⟩ := h
  rcases open_ints ht he hc hf with ⟨hcs, _⟩ | ⟨x, l, c, zs, hcs, _, hl, hm, hz, _, hcell, hwz⟩
  · simp [Value.cells] at hcs
    obtain ⟨rfl, rfl, rfl⟩ := hcs
    exact ⟨[], rfl, by omega, by omega, Sees.nil _ _⟩
  · simp [Value.cells] at hcs
    obtain ⟨rfl, rfl, rfl⟩ := hcs
    have hlz : len ≤ zs.length := by rw [hz]; split <;> omega
    obtain ⟨bs, hbs⟩ := bytes_of_wf zs hwz
    have hbl : bs.length = zs.length := by rw [← hbs]; simp
    refine ⟨bs.take len, by simp; omega, hl, by unfold maxLen at hm; omega, ?_⟩
    intro j hj
    have hj1 : j < len := by simp at hj; omega
    have hc0 := hcell j (by omega)
    have hget : zs.getD j 0 = ((bs[j].toNat : Nat) : Int) := by
      have hjb : j < bs.length := by omega
      have : zs[j]? = some ((bs[j].toNat : Nat) : Int) := by
        have e := congrArg (fun l => l[j]?) hbs
        simp only [List.getElem?_map, List.getElem?_eq_getElem hjb, Option.map_some] at e
        exact e.symm
      simp [List.getD, this]
    have hspot : x.spot = none := by
      by_cases h0 : j = 0
      · subst h0
        rw [Addr.add_zero'] at hc0
        unfold World.cell? at hc0
        split at hc0
        · split at hc0
          · cases hc0
          · rename_i h; simpa using h
        · cases hc0
      · have hc1 := hcell 0 (by omega)
        rw [Addr.add_zero'] at hc1
        unfold World.cell? at hc1
        split at hc1
        · split at hc1
          · cases hc1
          · rename_i h; simpa using h
        · cases hc1
    obtain ⟨b, off, spot⟩ := x
    subst hspot
    rw [Addr.add_lit, hget] at hc0
    exact ⟨b, off, rfl, by rw [hc0, List.getElem_take]⟩
end
end Go.Proofs.Ytgneigdcgfiooaa
