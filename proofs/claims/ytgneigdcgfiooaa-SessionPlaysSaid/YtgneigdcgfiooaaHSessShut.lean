/- Replies and acts that came in. -/
import Derived.Test.YtgneigdcgfiooaaZ1
import Derived.Test.YtgneigdcgfiooaaHShut2
import Derived.Lib.SmallJoins
namespace Go.Proofs.Ytgneigdcgfiooaa
open Go Go.ChangeShapes Go.WideShapes Go.ChangeAt Go.RowKit

section
variable {H : Type} {enc : TypeId × Value → H} {W : World} {base : Nat} {sp : Nat → Bool} {held : Bool}
theorem reply_of_trod {n : Nat} {cs : List Value} {y : DataW H × List MemPlace} (h : DataW.trod enc Try.prog W base sp held n 25 cs = some y) :
    ∃ (c : Int) (t : ByteArray), cs = [.int .u8 c, .string t] ∧ (Lit.int .u8 c).wf = true ∧ t.size ≤ maxLen := by
  obtain ⟨y0, y1, m, _, hl, e0, e1⟩ := trod_struct2 Try.underlying25 h
  rw [show Try.prog.cellsOf 25 = 2 by kernel_rfl] at hl
  rw [show Try.prog.cellsOf 5 = 1 by kernel_rfl] at e0
  rw [show Try.prog.cellsOf 9 = 1 by kernel_rfl] at e1
  match cs, hl with
  | [a, b], _ =>
    obtain ⟨x0, hx0, _, w0⟩ := DataW.trod_int Try.underlying5 e0
    obtain ⟨x1, hx1, _, w1⟩ := DataW.trod_string Try.underlying9 e1
    simp at hx0 hx1
    exact ⟨x0, x1, by rw [hx0, hx1], w0, w1⟩
theorem bool_of_trod {P : Program} {n : Nat} {t : TypeId} {cs : List Value} {y : DataW H × List MemPlace} (ht : P.underlying t = some .bool) (h : DataW.trod enc P W base sp held n t cs = some y) : ∃ b, cs = [.bool b] := by
  cases n with
  | zero => simp [DataW.trod] at h
  | succ n =>
    unfold DataW.trod at h
    rw [ht] at h
    split at h <;> simp_all
theorem act_of_trod {n : Nat} {cs : List Value} {y : DataW H × List MemPlace} (h : DataW.trod enc Try.prog W base sp held n 32 cs = some y) :
    ∃ x : ActS, cs = [.bool x.1, .int .u32 x.2.1, .int .u32 x.2.2.1, .int .u8 x.2.2.2.1, .string x.2.2.2.2] ∧ (Lit.int .u32 x.2.1).wf = true ∧ (Lit.int .u32 x.2.2.1).wf = true ∧ (Lit.int .u8 x.2.2.2.1).wf = true ∧ x.2.2.2.2.size ≤ maxLen := by
  obtain ⟨y0, y1, y2, y3, m, _, hl, e0, e1, e2, e3⟩ := Go.Joins.trod_struct4 Try.underlying32 h
  rw [show Try.prog.cellsOf 32 = 5 by kernel_rfl] at hl
  rw [show Try.prog.cellsOf 4 = 1 by kernel_rfl] at e0
  rw [show Try.prog.cellsOf 23 = 1 by kernel_rfl] at e1 e2
  rw [show Try.prog.cellsOf 25 = 2 by kernel_rfl] at e3
  match cs, hl with
  | [a, b, c, d, e], _ =>
    obtain ⟨x0, hx0⟩ := bool_of_trod Try.underlying4 e0
    obtain ⟨x1, hx1, _, w1⟩ := DataW.trod_int Try.underlying23 e1
    obtain ⟨x2, hx2, _, w2⟩ := DataW.trod_int Try.underlying23 e2
    obtain ⟨x3, x4, hx3, w3, w4⟩ := reply_of_trod e3
    simp at hx0 hx1 hx2 hx3
    exact ⟨(x0, x1, x2, x3, x4), by rw [hx0, hx1, hx2, hx3.1, hx3.2], w1, w2, w3, w4⟩
end
end Go.Proofs.Ytgneigdcgfiooaa
