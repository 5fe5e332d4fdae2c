/- Acts that came in. -/
import Derived.Test.YtihhbphlhckakaaNetShut
import Derived.Test.YtihhbphlhckakaaNetSame
namespace Go.Proofs.Ytihhbphlhckakaa
open Go Go.ChangeShapes Go.WideShapes Go.ChangeAt Go.RowKit

section
variable {H : Type} {enc : TypeId × Value → H} {W : World} {base : Nat} {sp : Nat → Bool} {held : Bool}
theorem act_of_trod {n : Nat} {cs : List Value} {y : DataW H × List MemPlace} (h : DataW.trod enc Try.prog W base sp held n 43 cs = some y) :
    ∃ (x : Ac), cs = [.int .u8 (x.1 : Int), .int .i64 x.2.1, .int .i64 x.2.2.1, .int .i64 x.2.2.2.1, .int .i64 x.2.2.2.2.1, .slice x.2.2.2.2.2.1 x.2.2.2.2.2.2.2.length x.2.2.2.2.2.2.1] ∧ Sees W x.2.2.2.2.2.1 x.2.2.2.2.2.2.2 ∧ x.1 < 256 ∧ x.2.2.1 ≤ 9223372036854775807 := by
  obtain ⟨xs, n, _, rfl, hl, hlen, hf⟩ := DataW.trod_struct Try.underlying43 h
  rw [show Try.prog.cellsOf 43 = 6 by kernel_rfl] at hl
  match xs, hlen with
  | [y0, y1, y2, y3], _ =>
    have e0 : DataW.trod enc Try.prog W base sp held n 5 ((cs.drop 0).take (Try.prog.cellsOf 5)) = some y0 := hf 0 _ rfl
    have e1 : DataW.trod enc Try.prog W base sp held n 3 ((cs.drop 1).take (Try.prog.cellsOf 3)) = some y1 := hf 1 _ rfl
    have e2 : DataW.trod enc Try.prog W base sp held n 3 ((cs.drop 2).take (Try.prog.cellsOf 3)) = some y2 := hf 2 _ rfl
    have e3 : DataW.trod enc Try.prog W base sp held n 29 ((cs.drop 3).take (Try.prog.cellsOf 29)) = some y3 := hf 3 _ rfl
    match cs, hl with
    | [a, b, c, d, e, f], _ =>
      rw [show Try.prog.cellsOf 5 = 1 by kernel_rfl] at e0
      rw [show Try.prog.cellsOf 3 = 1 by kernel_rfl] at e1 e2
      rw [show Try.prog.cellsOf 29 = 3 by kernel_rfl] at e3
      obtain ⟨x0, hx0, _, w0⟩ := DataW.trod_int Try.underlying5 e0
      obtain ⟨x1, hx1, _, w1⟩ := DataW.trod_int Try.underlying3 e1
      obtain ⟨x2, hx2, _, w2⟩ := DataW.trod_int Try.underlying3 e2
      obtain ⟨fr, to, ao, len, cap, l, h1, h2, _, _, h5⟩ := letter_of_trod e3
      simp at hx0 hx1 hx2 h1
      obtain ⟨rfl, rfl, rfl⟩ := h1
      subst h2
      have b0 := bounds_u8 w0
      have b2 := bounds_i64 w2
      refine ⟨(x0.toNat, x1, x2, fr, to, ao, cap, l), ?_, h5, by show x0.toNat < 256; omega, b2.2⟩
      rw [hx0, hx1, hx2]
      have : ((x0.toNat : Nat) : Int) = x0 := by omega
      simp only [this]
end
end Go.Proofs.Ytihhbphlhckakaa
