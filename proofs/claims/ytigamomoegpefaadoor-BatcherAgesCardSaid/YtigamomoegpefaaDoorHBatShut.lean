/- Acts and configurations that came in. -/
import Derived.Test.YtigamomoegpefaaDoorHCmdShut
import Derived.Test.YtigamomoegpefaaDoorHBatDoes2
namespace Go.Proofs.YtigamomoegpefaaDoor
open Go Go.ChangeShapes Go.WideShapes Go.ChangeAt Go.RowKit

section
variable {H : Type} {enc : TypeId × Value → H} {W : World} {base : Nat} {sp : Nat → Bool} {held : Bool}
set_option maxRecDepth 100000 in
theorem cfg_of_trod {n : Nat} {cs : List Value} {y : DataW H × List MemPlace} (h : DataW.trod enc Tryd.prog W base sp held n 23 cs = some y) :
    ∃ a b c d e : Int, cs = [.int .i64 a, .int .i64 b, .int .i64 c, .int .i64 d, .int .i64 e] := by
  obtain ⟨xs, n, _, rfl, hl, hlen, hf⟩ := DataW.trod_struct Tryd.underlying23 h
  rw [show Tryd.prog.cellsOf 23 = 5 by kernel_rfl] at hl
  match xs, hlen with
  | [y0, y1, y2, y3, y4], _ =>
    have e0 : DataW.trod enc Tryd.prog W base sp held n 3 ((cs.drop 0).take (Tryd.prog.cellsOf 3)) = some y0 := hf 0 _ rfl
    have e1 : DataW.trod enc Tryd.prog W base sp held n 3 ((cs.drop 1).take (Tryd.prog.cellsOf 3)) = some y1 := hf 1 _ rfl
    have e2 : DataW.trod enc Tryd.prog W base sp held n 3 ((cs.drop 2).take (Tryd.prog.cellsOf 3)) = some y2 := hf 2 _ rfl
    have e3 : DataW.trod enc Tryd.prog W base sp held n 3 ((cs.drop 3).take (Tryd.prog.cellsOf 3)) = some y3 := hf 3 _ rfl
    have e4 : DataW.trod enc Tryd.prog W base sp held n 3 ((cs.drop 4).take (Tryd.prog.cellsOf 3)) = some y4 := hf 4 _ rfl
    match cs, hl with
    | [a, b, c, d, e], _ =>
      rw [show Tryd.prog.cellsOf 3 = 1 by kernel_rfl] at e0 e1 e2 e3 e4
      obtain ⟨x0, hx0, _, w0⟩ := DataW.trod_int Tryd.underlying3 e0
      obtain ⟨x1, hx1, _, w1⟩ := DataW.trod_int Tryd.underlying3 e1
      obtain ⟨x2, hx2, _, w2⟩ := DataW.trod_int Tryd.underlying3 e2
      obtain ⟨x3, hx3, _, w3⟩ := DataW.trod_int Tryd.underlying3 e3
      obtain ⟨x4, hx4, _, w4⟩ := DataW.trod_int Tryd.underlying3 e4
      simp at hx0 hx1 hx2 hx3 hx4
      exact ⟨x0, x1, x2, x3, x4, by rw [hx0, hx1, hx2, hx3, hx4]⟩
set_option maxRecDepth 100000 in
theorem actb_of_trod {n : Nat} {cs : List Value} {y : DataW H × List MemPlace} (h : DataW.trod enc Tryd.prog W base sp held n 38 cs = some y) :
    ∃ x : Ab, cs = [.int .u8 (x.1 : Int), .int .i64 x.2.1, .int .u32 (x.2.2.1.client : Int), .int .u32 (x.2.2.1.seq : Int), .int .u8 (x.2.2.1.kind : Int), .slice x.2.2.2.1 x.2.2.1.keys.length x.2.2.2.2, .string x.2.2.1.old, .string x.2.2.1.fresh, .int .i64 x.2.2.1.n] ∧ SeesT W x.2.2.2.1 x.2.2.1.keys ∧ Wf x.2.2.1 := by
  obtain ⟨xs, n, _, rfl, hl, hlen, hf⟩ := DataW.trod_struct Tryd.underlying38 h
  rw [show Tryd.prog.cellsOf 38 = 9 by kernel_rfl] at hl
  match xs, hlen with
  | [y0, y1, y2], _ =>
    have e0 : DataW.trod enc Tryd.prog W base sp held n 5 ((cs.drop 0).take (Tryd.prog.cellsOf 5)) = some y0 := hf 0 _ rfl
    have e1 : DataW.trod enc Tryd.prog W base sp held n 3 ((cs.drop 1).take (Tryd.prog.cellsOf 3)) = some y1 := hf 1 _ rfl
    have e2 : DataW.trod enc Tryd.prog W base sp held n 36 ((cs.drop 2).take (Tryd.prog.cellsOf 36)) = some y2 := hf 2 _ rfl
    match cs, hl with
    | [a, b, c0, c1, c2, c3, c4, c5, c6], _ =>
      rw [show Tryd.prog.cellsOf 5 = 1 by kernel_rfl] at e0
      rw [show Tryd.prog.cellsOf 3 = 1 by kernel_rfl] at e1
      rw [show Tryd.prog.cellsOf 36 = 7 by kernel_rfl] at e2
      obtain ⟨x0, hx0, _, w0⟩ := DataW.trod_int Tryd.underlying5 e0
      obtain ⟨x1, hx1, _, w1⟩ := DataW.trod_int Tryd.underlying3 e1
      have e2' : DataW.trod enc Tryd.prog W base sp held n 36 [c0, c1, c2, c3, c4, c5, c6] = some y2 := e2
      obtain ⟨x, hx, ht, hw⟩ := cmd_of_trod e2'
      simp at hx0 hx1
      have b0 := bounds_u8 w0
      have t0 : ((x0.toNat : Nat) : Int) = x0 := by omega
      simp only [cmdC, List.cons.injEq, and_true] at hx
      obtain ⟨h0, h1, h2, h3, h4, h5, h6⟩ := hx
      refine ⟨(x0.toNat, x1, x), ?_, ht, hw⟩
      rw [hx0, hx1, h0, h1, h2, h3, h4, h5, h6, t0]
end
end Go.Proofs.YtigamomoegpefaaDoor
