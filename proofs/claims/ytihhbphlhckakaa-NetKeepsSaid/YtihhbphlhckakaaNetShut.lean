/- Letters that came in. -/
import Derived.Test.YtihhbphlhckakaaNet
import Derived.Test.YtihhbphlhckakaaShut2
import Derived.Deep.Strs
namespace Go.Proofs.Ytihhbphlhckakaa
open Go Go.ChangeShapes Go.WideShapes Go.ChangeAt Go.RowKit

section
variable {H : Type} {enc : TypeId × Value → H} {W : World} {base : Nat} {sp : Nat → Bool} {held : Bool}
theorem letter_of_trod {n : Nat} {cs : List Value} {y : DataW H × List MemPlace} (h : DataW.trod enc Try.prog W base sp held n 29 cs = some y) :
    ∃ (fr to : Int) (ao : Option Addr) (len cap : Nat) (l : List UInt8), cs = [.int .i64 fr, .int .i64 to, .slice ao len cap] ∧ l.length = len ∧ len ≤ cap ∧ cap ≤ 9223372036854775807 ∧ Sees W ao l := by
  obtain ⟨y0, y1, y2, m, _, hl, e0, e1, e2⟩ := Go.Deep.trod_struct3 Try.underlying29 h
  rw [show Try.prog.cellsOf 29 = 3 by kernel_rfl] at hl
  rw [show Try.prog.cellsOf 3 = 1 by kernel_rfl] at e0 e1
  rw [show Try.prog.cellsOf 22 = 1 by kernel_rfl] at e2
  match cs, hl with
  | [a, b, c], _ =>
    obtain ⟨x0, hx0, _, w0⟩ := DataW.trod_int Try.underlying3 e0
    obtain ⟨x1, hx1, _, w1⟩ := DataW.trod_int Try.underlying3 e1
    have e2' : DataW.trod enc Try.prog W base sp held m 22 [c] = some y2 := e2
    have hc : ∃ ao len cap, c = .slice ao len cap := by
      rcases DataW.trod_slice Try.underlying22 e2' with ⟨h, _⟩ | ⟨a, len, cap, _, _, _, _, h, _⟩
      · simp at h; exact ⟨none, 0, 0, h⟩
      · simp at h; exact ⟨some a, len, cap, h⟩
    obtain ⟨ao, len, cap, rfl⟩ := hc
    obtain ⟨l, l1, l2, l3, l4⟩ := sees_of_trod (enc := enc) (W := W) (base := base) (sp := sp) (held := held) (ao := ao) (len := len) (cap := cap) (d := y2.1) (p := y2.2) Try.underlying22 Try.underlying5 (by kernel_rfl) ⟨m, by simpa [Value.cells] using e2'⟩
    simp at hx0 hx1
    exact ⟨x0, x1, ao, len, cap, l, by rw [hx0, hx1], l1, l2, l3, l4⟩
end
end Go.Proofs.Ytihhbphlhckakaa
