/- Messages that came in. -/
import Derived.Test.YtekdnljincbghaaDoorZ1
import Derived.Test.YtekdnljincbghaaDoorHShut2
import Derived.Deep.Strs
namespace Go.Proofs.YtekdnljincbghaaDoor
open Go Go.ChangeShapes Go.WideShapes Go.ChangeAt Go.RowKit

section
variable {H : Type} {enc : TypeId × Value → H} {W : World} {base : Nat} {sp : Nat → Bool} {held : Bool}
theorem slice_of_trod {n : Nat} {t e : TypeId} {c : Value} {y : DataW H × List MemPlace} (ht : Tryd.prog.underlying t = some (.slice e)) (h : DataW.trod enc Tryd.prog W base sp held n t [c] = some y) : ∃ ao len cap, c = .slice ao len cap := by
  rcases DataW.trod_slice ht h with ⟨h, _⟩ | ⟨a, len, cap, _, _, _, _, h, _⟩
  · simp at h; exact ⟨none, 0, 0, h⟩
  · simp at h; exact ⟨some a, len, cap, h⟩
theorem bytes_of_trod {n : Nat} {c : Value} {y : DataW H × List MemPlace} (h : DataW.trod enc Tryd.prog W base sp held n 27 [c] = some y) :
    ∃ b : Bs, c = .slice b.2.1 b.1.length b.2.2 ∧ WfB b ∧ Sees W b.2.1 b.1 := by
  obtain ⟨ao, len, cap, rfl⟩ := slice_of_trod Tryd.underlying27 h
  obtain ⟨l, l1, l2, l3, l4⟩ := sees_of_trod (enc := enc) (W := W) (base := base) (sp := sp) (held := held) (ao := ao) (len := len) (cap := cap) (d := y.1) (p := y.2) Tryd.underlying27 Tryd.underlying5 (by kernel_rfl) ⟨n, by simpa [Value.cells] using h⟩
  subst l1
  exact ⟨(l, ao, cap), rfl, ⟨l2, l3⟩, l4⟩
set_option maxRecDepth 100000 in
theorem vote_of_trod {n : Nat} {cs : List Value} {y : DataW H × List MemPlace} (h : DataW.trod enc Tryd.prog W base sp held n 52 cs = some y) :
    ∃ v : Vm, cs = voteC v ∧ (WfV v.1 ∧ WfB v.2) ∧ Sees W v.2.2.1 v.2.1 := by
  obtain ⟨y0, y1, y2, m, _, hl, e0, e1, e2⟩ := Go.Deep.trod_struct3 Tryd.underlying52 h
  rw [show Tryd.prog.cellsOf 52 = 4 by kernel_rfl] at hl
  rw [show Tryd.prog.cellsOf 22 = 1 by kernel_rfl] at e0
  rw [show Tryd.prog.cellsOf 24 = 2 by kernel_rfl] at e1
  rw [show Tryd.prog.cellsOf 27 = 1 by kernel_rfl] at e2
  match cs, hl with
  | [a, b, c, d], _ =>
    obtain ⟨x0, hx0, _, w0⟩ := DataW.trod_int Tryd.underlying22 e0
    have e1' : DataW.trod enc Tryd.prog W base sp held m 24 [b, c] = some y1 := e1
    have e2' : DataW.trod enc Tryd.prog W base sp held m 27 [d] = some y2 := e2
    obtain ⟨bn, br, hb, u0, u1⟩ := pair_of_trod Tryd.underlying24 (by kernel_rfl) Tryd.underlying22 Tryd.underlying3 rfl rfl (by kernel_rfl) (by kernel_rfl) e1'
    obtain ⟨bb, rfl, wb, sb⟩ := bytes_of_trod e2'
    simp at hx0 hb
    have b0 := bounds_u64 w0
    have b1 := bounds_u64 u0
    have b2 := bounds_i64 u1
    refine ⟨(⟨x0.toNat, bn.toNat, br⟩, bb), ?_, ⟨⟨by show x0.toNat < _; omega, by show bn.toNat < _; omega, b2.1, b2.2⟩, wb⟩, sb⟩
    have t0 : ((x0.toNat : Nat) : Int) = x0 := by omega
    have t1 : ((bn.toNat : Nat) : Int) = bn := by omega
    rw [hx0, hb.1, hb.2]
    simp only [voteC, bsV, t0, t1]
theorem votes_of_trod {n : Nat} {c : Value} {y : DataW H × List MemPlace} (h : DataW.trod enc Tryd.prog W base sp held n 25 [c] = some y) :
    ∃ (ao : Option Addr) (cap : Nat) (l : List Vm), c = .slice ao l.length cap ∧ SeesVs W ao l ∧ l.length ≤ 9223372036854775807 ∧ ∀ v ∈ l, WfV v.1 ∧ WfB v.2 := by
  obtain ⟨ao, len, cap, rfl⟩ := slice_of_trod Tryd.underlying25 h
  obtain ⟨l, l1, l2, l3, l4⟩ := list_of_trod (X := Vm) (enc := enc) (W := W) (base := base) (sp := sp) (held := held) (ao := ao) (len := len) (cap := cap) (d := y.1) (p := y.2) (fun cs x => cs = voteC x ∧ (WfV x.1 ∧ WfB x.2) ∧ Sees W x.2.2.1 x.2.1) Tryd.underlying25 (show Tryd.prog.cellsOf 52 = 4 by kernel_rfl) (by omega)
    (fun m cs z hz => vote_of_trod hz) ⟨n, by simpa [Value.cells] using h⟩
  subst l1
  refine ⟨ao, cap, l, rfl, fun j hj => ?_, by omega, fun v hv => ?_⟩
  · obtain ⟨b, off, cs, e1, ⟨e2, _, e3⟩, _, e4⟩ := l4 j hj
    subst e2
    refine ⟨b, off, e1, ⟨?_, ?_, ?_, ?_⟩, e3⟩
    · exact e4 0 (by omega)
    · exact e4 1 (by omega)
    · exact e4 2 (by omega)
    · exact e4 3 (by omega)
  · obtain ⟨j, hj, rfl⟩ := List.getElem_of_mem hv
    obtain ⟨b, off, cs, _, ⟨_, e3, _⟩, _, _⟩ := l4 j hj
    exact e3
theorem batches_of_trod {n : Nat} {c : Value} {y : DataW H × List MemPlace} (h : DataW.trod enc Tryd.prog W base sp held n 26 [c] = some y) :
    ∃ (ao : Option Addr) (cap : Nat) (l : List Bs), c = .slice ao l.length cap ∧ SeesBs W ao l ∧ l.length ≤ 9223372036854775807 ∧ ∀ b ∈ l, WfB b := by
  obtain ⟨ao, len, cap, rfl⟩ := slice_of_trod Tryd.underlying26 h
  obtain ⟨l, l1, l2, l3, l4⟩ := list_of_trod (X := Bs) (enc := enc) (W := W) (base := base) (sp := sp) (held := held) (ao := ao) (len := len) (cap := cap) (d := y.1) (p := y.2) (fun cs x => cs = [.slice x.2.1 x.1.length x.2.2] ∧ WfB x ∧ Sees W x.2.1 x.1) Tryd.underlying26 (show Tryd.prog.cellsOf 27 = 1 by kernel_rfl) (by omega)
    (fun m cs z hz => by
      have hl : cs.length = 1 := by
        have := DataW.trod_slice Tryd.underlying27 hz
        rcases this with ⟨h, _⟩ | ⟨a, len, cap, _, _, _, _, h, _⟩
        · rw [h]; rfl
        · rw [h]; rfl
      match cs, hl with
      | [c], _ =>
        obtain ⟨b, rfl, h1, h2⟩ := bytes_of_trod hz
        exact ⟨b, rfl, h1, h2⟩) ⟨n, by simpa [Value.cells] using h⟩
  subst l1
  refine ⟨ao, cap, l, rfl, fun j hj => ?_, by omega, fun v hv => ?_⟩
  · obtain ⟨b, off, cs, e1, ⟨e2, _, e3⟩, _, e4⟩ := l4 j hj
    subst e2
    have := e4 0 (by omega)
    rw [Nat.mul_one] at this
    exact ⟨b, off, e1, this, e3⟩
  · obtain ⟨j, hj, rfl⟩ := List.getElem_of_mem hv
    obtain ⟨b, off, cs, _, ⟨_, e3, _⟩, _, _⟩ := l4 j hj
    exact e3
set_option maxRecDepth 100000 in
theorem msg_of_trod {n : Nat} {cs : List Value} {y : DataW H × List MemPlace} (h : DataW.trod enc Tryd.prog W base sp held n 29 cs = some y) :
    ∃ m : Mm, cs = (mC (.int .u8 (m.h.kind : Int)) m).toList ∧ SeesM W m ∧ WfM m := by
  obtain ⟨xs, n, _, rfl, hl, hlen, hf⟩ := DataW.trod_struct Tryd.underlying29 h
  rw [show Tryd.prog.cellsOf 29 = 9 by kernel_rfl] at hl
  match xs, hlen with
  | [y0, y1, y2, y3, y4, y5, y6, y7], _ =>
    have e0 : DataW.trod enc Tryd.prog W base sp held n 5 ((cs.drop 0).take (Tryd.prog.cellsOf 5)) = some y0 := hf 0 _ rfl
    have e1 : DataW.trod enc Tryd.prog W base sp held n 24 ((cs.drop 1).take (Tryd.prog.cellsOf 24)) = some y1 := hf 1 _ rfl
    have e2 : DataW.trod enc Tryd.prog W base sp held n 22 ((cs.drop 3).take (Tryd.prog.cellsOf 22)) = some y2 := hf 2 _ rfl
    have e3 : DataW.trod enc Tryd.prog W base sp held n 22 ((cs.drop 4).take (Tryd.prog.cellsOf 22)) = some y3 := hf 3 _ rfl
    have e4 : DataW.trod enc Tryd.prog W base sp held n 22 ((cs.drop 5).take (Tryd.prog.cellsOf 22)) = some y4 := hf 4 _ rfl
    have e5 : DataW.trod enc Tryd.prog W base sp held n 25 ((cs.drop 6).take (Tryd.prog.cellsOf 25)) = some y5 := hf 5 _ rfl
    have e6 : DataW.trod enc Tryd.prog W base sp held n 26 ((cs.drop 7).take (Tryd.prog.cellsOf 26)) = some y6 := hf 6 _ rfl
    have e7 : DataW.trod enc Tryd.prog W base sp held n 27 ((cs.drop 8).take (Tryd.prog.cellsOf 27)) = some y7 := hf 7 _ rfl
    rw [show Tryd.prog.cellsOf 5 = 1 by kernel_rfl] at e0
    rw [show Tryd.prog.cellsOf 24 = 2 by kernel_rfl] at e1
    rw [show Tryd.prog.cellsOf 22 = 1 by kernel_rfl] at e2 e3 e4
    rw [show Tryd.prog.cellsOf 25 = 1 by kernel_rfl] at e5
    rw [show Tryd.prog.cellsOf 26 = 1 by kernel_rfl] at e6
    rw [show Tryd.prog.cellsOf 27 = 1 by kernel_rfl] at e7
    match cs, hl with
    | [c0, c1, c2, c3, c4, c5, c6, c7, c8], _ =>
      obtain ⟨x0, hx0, _, w0⟩ := DataW.trod_int Tryd.underlying5 e0
      have e1' : DataW.trod enc Tryd.prog W base sp held n 24 [c1, c2] = some y1 := e1
      obtain ⟨bn, br, hb, u0, u1⟩ := pair_of_trod Tryd.underlying24 (by kernel_rfl) Tryd.underlying22 Tryd.underlying3 rfl rfl (by kernel_rfl) (by kernel_rfl) e1'
      obtain ⟨x2, hx2, _, w2⟩ := DataW.trod_int Tryd.underlying22 e2
      obtain ⟨x3, hx3, _, w3⟩ := DataW.trod_int Tryd.underlying22 e3
      obtain ⟨x4, hx4, _, w4⟩ := DataW.trod_int Tryd.underlying22 e4
      have e5' : DataW.trod enc Tryd.prog W base sp held n 25 [c6] = some y5 := e5
      have e6' : DataW.trod enc Tryd.prog W base sp held n 26 [c7] = some y6 := e6
      have e7' : DataW.trod enc Tryd.prog W base sp held n 27 [c8] = some y7 := e7
      obtain ⟨vo, vc, votes, rfl, v1, v2, v3⟩ := votes_of_trod e5'
      obtain ⟨so, sc, batches, rfl, s1, s2, s3⟩ := batches_of_trod e6'
      obtain ⟨p, rfl, p1, p2⟩ := bytes_of_trod e7'
      simp at hx0 hx2 hx3 hx4 hb
      have b0 := bounds_u8 w0
      have b1 := bounds_u64 u0
      have b2 := bounds_i64 u1
      have b3 := bounds_u64 w2
      have b4 := bounds_u64 w3
      have b5 := bounds_u64 w4
      refine ⟨⟨⟨x0.toNat, bn.toNat, br, x2.toNat, x3.toNat, x4.toNat⟩, vo, vc, votes, so, sc, batches, p⟩, ?_, ⟨v1, s1, p2⟩, ⟨⟨by show x0.toNat < _; omega, by show bn.toNat < _; omega, b2, by show x2.toNat < _; omega, by show x3.toNat < _; omega, by show x4.toNat < _; omega⟩, v2, v3, s2, s3, p1⟩⟩
      have t0 : ((x0.toNat : Nat) : Int) = x0 := by omega
      have t1 : ((bn.toNat : Nat) : Int) = bn := by omega
      have t2 : ((x2.toNat : Nat) : Int) = x2 := by omega
      have t3 : ((x3.toNat : Nat) : Int) = x3 := by omega
      have t4 : ((x4.toNat : Nat) : Int) = x4 := by omega
      rw [hx0, hb.1, hb.2, hx2, hx3, hx4]
      simp only [mC, t0, t1, t2, t3, t4]
end
end Go.Proofs.YtekdnljincbghaaDoor
