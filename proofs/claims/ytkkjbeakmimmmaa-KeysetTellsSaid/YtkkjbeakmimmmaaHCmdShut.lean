/- Commands that came in. -/
import Derived.Test.YtkkjbeakmimmmaaZ1
import Derived.Test.YtkkjbeakmimmmaaHShut2
namespace Go.Proofs.Ytkkjbeakmimmmaa
open Go Go.ChangeShapes Go.WideShapes Go.ChangeAt Go.RowKit

section
variable {H : Type} {enc : TypeId × Value → H} {W : World} {base : Nat} {sp : Nat → Bool} {held : Bool}
theorem texts_of_trod {n : Nat} {c : Value} {y : DataW H × List MemPlace} (h : DataW.trod enc Try.prog W base sp held n 30 [c] = some y) :
    ∃ (ao : Option Addr) (cap : Nat) (ks : List ByteArray), c = .slice ao ks.length cap ∧ SeesT W ao ks ∧ ks.length ≤ 9223372036854775807 ∧ ∀ t ∈ ks, t.size ≤ 9223372036854775807 := by
  have hc : ∃ ao len cap, c = .slice ao len cap := by
    rcases DataW.trod_slice Try.underlying30 h with ⟨h, _⟩ | ⟨a, len, cap, _, _, _, _, h, _⟩
    · simp at h; exact ⟨none, 0, 0, h⟩
    · simp at h; exact ⟨some a, len, cap, h⟩
  obtain ⟨ao, len, cap, rfl⟩ := hc
  obtain ⟨l, l1, l2, l3, l4⟩ := list_of_trod (X := ByteArray) (enc := enc) (W := W) (base := base) (sp := sp) (held := held) (ao := ao) (len := len) (cap := cap) (d := y.1) (p := y.2) (fun cs x => cs = [.string x] ∧ x.size ≤ 9223372036854775807) Try.underlying30 (show Try.prog.cellsOf 9 = 1 by kernel_rfl) (by omega)
    (fun m cs z hz => by obtain ⟨x, hx, _, hs⟩ := DataW.trod_string Try.underlying9 hz; exact ⟨x, hx, by unfold maxLen at hs; omega⟩) ⟨n, by simpa [Value.cells] using h⟩
  subst l1
  refine ⟨ao, cap, l, rfl, fun j hj => ?_, by omega, fun t ht => ?_⟩
  · obtain ⟨b, off, cs, e1, ⟨e2, _⟩, _, e4⟩ := l4 j hj
    subst e2
    have := e4 0 (by omega)
    rw [Nat.mul_one] at this
    exact ⟨b, off, e1, this⟩
  · obtain ⟨j, hj, rfl⟩ := List.getElem_of_mem ht
    obtain ⟨b, off, cs, _, ⟨_, e3⟩, _, _⟩ := l4 j hj
    exact e3
set_option maxRecDepth 100000 in
theorem cmd_of_trod {n : Nat} {cs : List Value} {y : DataW H × List MemPlace} (h : DataW.trod enc Try.prog W base sp held n 32 cs = some y) :
    ∃ x : Cm, cs = cmdC x ∧ SeesT W x.2.1 x.1.keys ∧ Wf x.1 := by
  obtain ⟨xs, n, _, rfl, hl, hlen, hf⟩ := DataW.trod_struct Try.underlying32 h
  rw [show Try.prog.cellsOf 32 = 7 by kernel_rfl] at hl
  match xs, hlen with
  | [y0, y1, y2, y3, y4, y5, y6], _ =>
    have e0 : DataW.trod enc Try.prog W base sp held n 29 ((cs.drop 0).take (Try.prog.cellsOf 29)) = some y0 := hf 0 _ rfl
    have e1 : DataW.trod enc Try.prog W base sp held n 29 ((cs.drop 1).take (Try.prog.cellsOf 29)) = some y1 := hf 1 _ rfl
    have e2 : DataW.trod enc Try.prog W base sp held n 5 ((cs.drop 2).take (Try.prog.cellsOf 5)) = some y2 := hf 2 _ rfl
    have e3 : DataW.trod enc Try.prog W base sp held n 30 ((cs.drop 3).take (Try.prog.cellsOf 30)) = some y3 := hf 3 _ rfl
    have e4 : DataW.trod enc Try.prog W base sp held n 9 ((cs.drop 4).take (Try.prog.cellsOf 9)) = some y4 := hf 4 _ rfl
    have e5 : DataW.trod enc Try.prog W base sp held n 9 ((cs.drop 5).take (Try.prog.cellsOf 9)) = some y5 := hf 5 _ rfl
    have e6 : DataW.trod enc Try.prog W base sp held n 2 ((cs.drop 6).take (Try.prog.cellsOf 2)) = some y6 := hf 6 _ rfl
    match cs, hl with
    | [a, b, c, d, e, f, g], _ =>
      rw [show Try.prog.cellsOf 29 = 1 by kernel_rfl] at e0 e1
      rw [show Try.prog.cellsOf 5 = 1 by kernel_rfl] at e2
      rw [show Try.prog.cellsOf 30 = 1 by kernel_rfl] at e3
      rw [show Try.prog.cellsOf 9 = 1 by kernel_rfl] at e4 e5
      rw [show Try.prog.cellsOf 2 = 1 by kernel_rfl] at e6
      obtain ⟨x0, hx0, _, w0⟩ := DataW.trod_int Try.underlying29 e0
      obtain ⟨x1, hx1, _, w1⟩ := DataW.trod_int Try.underlying29 e1
      obtain ⟨x2, hx2, _, w2⟩ := DataW.trod_int Try.underlying5 e2
      have e3' : DataW.trod enc Try.prog W base sp held n 30 [d] = some y3 := e3
      obtain ⟨ao, cap, ks, rfl, k1, k2, k3⟩ := texts_of_trod e3'
      obtain ⟨x4, hx4, _, w4⟩ := DataW.trod_string Try.underlying9 e4
      obtain ⟨x5, hx5, _, w5⟩ := DataW.trod_string Try.underlying9 e5
      obtain ⟨x6, hx6, _, w6⟩ := DataW.trod_int Try.underlying2 e6
      simp at hx0 hx1 hx2 hx4 hx5 hx6
      have b0 := bounds_u32 w0
      have b1 := bounds_u32 w1
      have b2 := bounds_u8 w2
      have b6 := bounds_i64 w6
      unfold maxLen at w4 w5
      refine ⟨(⟨x0.toNat, x1.toNat, x2.toNat, ks, x4, x5, x6⟩, ao, cap), ?_, k1, ⟨by show x0.toNat < _; omega, by show x1.toNat < _; omega, by show x2.toNat < _; omega, k2, k3, by show x4.size ≤ _; omega, by show x5.size ≤ _; omega, b6.1, b6.2⟩⟩
      rw [hx0, hx1, hx2, hx4, hx5, hx6]
      have t0 : ((x0.toNat : Nat) : Int) = x0 := by omega
      have t1 : ((x1.toNat : Nat) : Int) = x1 := by omega
      have t2 : ((x2.toNat : Nat) : Int) = x2 := by omega
      simp only [cmdC, t0, t1, t2]
end
end Go.Proofs.Ytkkjbeakmimmmaa
