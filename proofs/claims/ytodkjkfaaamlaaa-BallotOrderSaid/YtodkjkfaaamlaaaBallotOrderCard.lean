/- BallotOrder holds: for every three ballots and every slice of ballots the law returns true and leaves its arguments as they were. -/
import Derived.Test.YtodkjkfaaamlaaaBalOrder
import Derived.Test.YtodkjkfaaamlaaaShut2
import Derived.Test.YtodkjkfaaamlaaaShut
import Derived.Test.YtodkjkfaaamlaaaRows
import Derived.ProofKit
import Derived.OpenShut
import Derived.ShutString
import Derived.ChangeOld
namespace Go.Proofs.Ytodkjkfaaamlaaa.ballotOrder
open Go Go.ChangeShapes Go.WideShapes Go.ChangeAt Go.WideMaps Go.WideElems Go.RowKit
open Go.ChangeMaps (open_string shut_string)
theorem own : ownKnob Try.prog.godebug = none := by kernel_rfl
theorem laidOut : laidOutB Try.prog = true := by kernel_rfl
set_option maxRecDepth 100000 in
theorem lifted (os : Os) (started : os.Started) (H : Type) (enc : TypeId × Value → H) :
    ReturnsInHanded {} Try.checked os 3 .any (Rows.ballotOrderSpec.pre6 enc Try.prog Try.f3 Rows.ballotOrderRow.domain false) (Rows.ballotOrderSpec.post enc Try.prog Try.f3 false true false false) := by
  refine returnsInHanded_of_change (C := Try.checked) own started (by kernel_rfl) Try.func3
    (ChangeSpec.witness6 (enc := enc) (C := Try.checked) false ⟨#[], #[.agg #[.int .u64 0, .int .i64 0], .agg #[.int .u64 0, .int .i64 0], .agg #[.int .u64 0, .int .i64 0], .slice none 0 0], []⟩ 8 (by kernel_rfl) (by kernel_rfl) (by kernel_rfl) (by kernel_rfl)) ?_
  intro W base args ds gs before hval0 hW hcnd _
  have hval : ∀ (j : Nat) t v, Try.f3.params[j]? = some t → args[j]? = some v → Value.okWide Try.prog W .any base t v := hval0
  have hW' := hW
  obtain ⟨p, q, hA0, hV, rfl, hfz, hnd⟩ := hW
  have hA : DataW.TrodAll enc Try.prog W 0 (fun _ => true) true Try.f3.params.toList args.toList ds p := hA0
  rw [Try.params3] at hA hval
  obtain ⟨v0, vs0, d0, ds0, p0, q0, hargs, rfl, rfl, h0, r0⟩ := trodAll_cons hA
  obtain ⟨v1, vs1, d1, ds1, p1, q1, rfl, rfl, rfl, h1, r1⟩ := trodAll_cons r0
  obtain ⟨v2, vs2, d2, ds2, p2, q2, rfl, rfl, rfl, h2, r2⟩ := trodAll_cons r1
  obtain ⟨v3, vs3, d3, ds3, p3, q3, rfl, rfl, rfl, h3, r3⟩ := trodAll_cons r2
  obtain ⟨rfl, rfl, rfl⟩ := trodAll_nil r3
  obtain rfl : args = #[v0, v1, v2, v3] := by cases args; simp_all
  obtain ⟨rfl, rfl⟩ := trodVars_none hV
  have k0 := h0
  have lt0 : ∀ x ∈ p0, x.block < W.heap.size := by obtain ⟨m, hm⟩ := k0; exact DataW.trod_lt m _ _ _ hm
  obtain ⟨cs0, rfl, hcs0⟩ := okWide_struct Try.underlying24 (hval 0 24 v0 rfl rfl)
  obtain ⟨fuel0, hf0⟩ := h0
  obtain ⟨x0, y0, hc0, wx0, wy0⟩ := pair_of_trod Try.underlying24 (by kernel_rfl) Try.underlying22 Try.underlying3 rfl rfl (by kernel_rfl) (by kernel_rfl) hf0
  have hc0' : cs0.toList = _ := hc0
  obtain rfl : cs0 = #[.int .u64 x0, .int .i64 y0] := Array.toList_inj.1 hc0'
  have b0 := bounds_u64 wx0
  have k1 := h1
  have lt1 : ∀ x ∈ p1, x.block < W.heap.size := by obtain ⟨m, hm⟩ := k1; exact DataW.trod_lt m _ _ _ hm
  obtain ⟨cs1, rfl, hcs1⟩ := okWide_struct Try.underlying24 (hval 1 24 v1 rfl rfl)
  obtain ⟨fuel1, hf1⟩ := h1
  obtain ⟨x1, y1, hc1, wx1, wy1⟩ := pair_of_trod Try.underlying24 (by kernel_rfl) Try.underlying22 Try.underlying3 rfl rfl (by kernel_rfl) (by kernel_rfl) hf1
  have hc1' : cs1.toList = _ := hc1
  obtain rfl : cs1 = #[.int .u64 x1, .int .i64 y1] := Array.toList_inj.1 hc1'
  have b1 := bounds_u64 wx1
  have k2 := h2
  have lt2 : ∀ x ∈ p2, x.block < W.heap.size := by obtain ⟨m, hm⟩ := k2; exact DataW.trod_lt m _ _ _ hm
  obtain ⟨cs2, rfl, hcs2⟩ := okWide_struct Try.underlying24 (hval 2 24 v2 rfl rfl)
  obtain ⟨fuel2, hf2⟩ := h2
  obtain ⟨x2, y2, hc2, wx2, wy2⟩ := pair_of_trod Try.underlying24 (by kernel_rfl) Try.underlying22 Try.underlying3 rfl rfl (by kernel_rfl) (by kernel_rfl) hf2
  have hc2' : cs2.toList = _ := hc2
  obtain rfl : cs2 = #[.int .u64 x2, .int .i64 y2] := Array.toList_inj.1 hc2'
  have b2 := bounds_u64 wx2
  have k3 := h3
  have lt3 : ∀ x ∈ p3, x.block < W.heap.size := by obtain ⟨m, hm⟩ := k3; exact DataW.trod_lt m _ _ _ hm
  obtain ⟨a3, len3, cap3, rfl⟩ := okWide_slice Try.underlying25 (hval 3 25 v3 rfl rfl)
  obtain ⟨l3, n3, c3, m3, s3⟩ := list_of_trod (X := Int × Int) (fun cs x => cs = [.int .u64 x.1, .int .i64 x.2] ∧ (Lit.int .u64 x.1).wf = true ∧ (Lit.int .i64 x.2).wf = true) Try.underlying25 (show Try.prog.cellsOf 24 = 2 by kernel_rfl) (by omega) (fun n cs y h => by obtain ⟨x0, x1, h1, h2, h3⟩ := pair_of_trod Try.underlying24 (by kernel_rfl) Try.underlying22 Try.underlying3 rfl rfl (by kernel_rfl) (by kernel_rfl) h; exact ⟨(x0, x1), h1, h2, h3⟩) h3
  have sb3 : SeesB W a3 l3 := fun j hj => by obtain ⟨b, off, cs, e1, ⟨e2, _, _⟩, _, e4⟩ := s3 j hj; subst e2; exact ⟨b, off, e1, e4 0 (by omega), e4 1 (by omega)⟩
  clear hA0 hval0
  refine (ballotOrder_any x0 y0 x1 y1 x2 y2 a3 len3 cap3 l3 W n3 (by omega) sb3).mono fun e W' ⟨he, hmod⟩ => ?_
  have bel := hmod.below0
  subst he
  exact ⟨_, rfl, _, _, _, [], _, [], hW', trodAll_mk1 (shut_bool Try.underlying4 _), (trodAll_cons_mk (Below.trod laidOut (by kernel_rfl) (of_decide_eq_true (by kernel_rfl)) k0 bel lt0) (trodAll_cons_mk (Below.trod laidOut (by kernel_rfl) (of_decide_eq_true (by kernel_rfl)) k1 bel lt1) (trodAll_cons_mk (Below.trod laidOut (by kernel_rfl) (of_decide_eq_true (by kernel_rfl)) k2 bel lt2) (trodAll_cons_mk (Below.trod laidOut (by kernel_rfl) (of_decide_eq_true (by kernel_rfl)) k3 bel lt3) trodAll_mk0)))), rfl, bel.frame _, fun h => by cases h⟩
theorem row_holds : Rows.BallotOrderSaid :=
  OpenClaim.holds_of_wide 3 Try.f3 rfl rfl rfl rfl rfl rfl rfl ⟨rfl, rfl, rfl, rfl, rfl⟩ rfl rfl rfl rfl rfl (by kernel_rfl) Try.func3 (by kernel_rfl)
    (of_decide_eq_true (by kernel_rfl)) (by unfold Func.isWrapper; rw [if_neg (of_decide_eq_false (by kernel_rfl))]; exact ⟨rfl, rfl⟩)
    (fun os started H enc _ => lifted os started H enc)
end Go.Proofs.Ytodkjkfaaamlaaa.ballotOrder
namespace Go.Proofs.Ytodkjkfaaamlaaa
theorem ballotOrder_holds : Rows.BallotOrderSaid := ballotOrder.row_holds
#print axioms ballotOrder_holds
end Go.Proofs.Ytodkjkfaaamlaaa
