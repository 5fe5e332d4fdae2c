/- Acts on a pool that came in. -/
import Derived.Test.YtfpmdacpmcdleaaPoolPlays0
import Derived.Test.YtfpmdacpmcdleaaSized
namespace Go.Proofs.Ytfpmdacpmcdleaa
open Go Go.ChangeShapes Go.WideShapes Go.ChangeAt Go.RowKit

section
variable {H : Type} {enc : TypeId × Value → H} {W : World} {base : Nat} {sp : Nat → Bool} {held : Bool}
theorem act_of_trod {n : Nat} {cs : List Value} {y : DataW H × List MemPlace} (h : DataW.trod enc Try.prog W base sp held n 43 cs = some y) (hw : Light Try.prog 43 y.1) :
    ∃ (x : Ac), cs = [.int .u8 (x.1 : Int), .int .i64 x.2.1, .int .i64 x.2.2.1, .int .u32 x.2.2.2.1, .slice x.2.2.2.2.1 x.2.2.2.2.2.2.length x.2.2.2.2.2.1] ∧ Sees W x.2.2.2.2.1 x.2.2.2.2.2.2 ∧ x.1 < 256 ∧ x.2.1 ≤ 9223372036854775807 ∧ x.2.2.2.2.2.2.length ≤ 140737488351232 := by
  obtain ⟨xs, n, _, rfl, hl, hlen, hf⟩ := DataW.trod_struct Try.underlying43 h
  rw [show Try.prog.cellsOf 43 = 5 by kernel_rfl] at hl
  match xs, hlen with
  | [y0, y1, y2, y3], _ =>
    have e0 : DataW.trod enc Try.prog W base sp held n 5 ((cs.drop 0).take (Try.prog.cellsOf 5)) = some y0 := hf 0 _ rfl
    have e1 : DataW.trod enc Try.prog W base sp held n 3 ((cs.drop 1).take (Try.prog.cellsOf 3)) = some y1 := hf 1 _ rfl
    have e2 : DataW.trod enc Try.prog W base sp held n 29 ((cs.drop 2).take (Try.prog.cellsOf 29)) = some y2 := hf 2 _ rfl
    have e3 : DataW.trod enc Try.prog W base sp held n 32 ((cs.drop 4).take (Try.prog.cellsOf 32)) = some y3 := hf 3 _ rfl
    match cs, hl with
    | [a, b, c, d, e], _ =>
      rw [show Try.prog.cellsOf 5 = 1 by kernel_rfl] at e0
      rw [show Try.prog.cellsOf 3 = 1 by kernel_rfl] at e1
      rw [show Try.prog.cellsOf 29 = 2 by kernel_rfl] at e2
      rw [show Try.prog.cellsOf 32 = 1 by kernel_rfl] at e3
      obtain ⟨x0, hx0, _, w0⟩ := DataW.trod_int Try.underlying5 e0
      obtain ⟨x1, hx1, _, w1⟩ := DataW.trod_int Try.underlying3 e1
      obtain ⟨i0, g0, hh, _, _⟩ := pair_of_trod Try.underlying29 (by kernel_rfl) Try.underlying3 Try.underlying27 rfl rfl (by kernel_rfl) (by kernel_rfl) e2
      have e3' : DataW.trod enc Try.prog W base sp held n 32 [e] = some y3 := e3
      have hc : ∃ ao len cap, e = .slice ao len cap := by
        rcases DataW.trod_slice Try.underlying32 e3' with ⟨h, _⟩ | ⟨a, len, cap, _, _, _, _, h, _⟩
        · simp at h; exact ⟨none, 0, 0, h⟩
        · simp at h; exact ⟨some a, len, cap, h⟩
      obtain ⟨ao, len, cap, rfl⟩ := hc
      obtain ⟨l, l1, l2, l3, l4, l5⟩ := sees_of_light (enc := enc) (W := W) (base := base) (sp := sp) (held := held) (ao := ao) (len := len) (cap := cap) (d := y3.1) (p := y3.2) Try.underlying32 Try.underlying5 (by kernel_rfl) (by kernel_rfl) ⟨n, by simpa [Value.cells] using e3'⟩ (hw.part (j := 3) Try.underlying43 rfl rfl)
      simp at hx0 hx1 hh
      obtain ⟨rfl, rfl⟩ := hh
      subst l1
      have b0 := bounds_u8 w0
      have b1 := bounds_i64 w1
      refine ⟨(x0.toNat, x1, i0, g0, ao, cap, l), ?_, l4, by show x0.toNat < 256; omega, b1.2, ?_⟩
      · rw [hx0, hx1]
        have : ((x0.toNat : Nat) : Int) = x0 := by omega
        simp only [this]
      · exact l5
end
end Go.Proofs.Ytfpmdacpmcdleaa
