/- SessionPlays holds: for every slice of acts the law returns true and leaves its argument as it was. -/
import Derived.Test.YtgneigdcgfiooaaZ9
import Derived.Test.YtgneigdcgfiooaaHSessShut
import Derived.Test.YtgneigdcgfiooaaHShut
import Derived.Test.YtgneigdcgfiooaaRows
import Derived.ProofKit
import Derived.OpenShut
import Derived.ShutString
import Derived.ChangeOld
namespace Go.Proofs.Ytgneigdcgfiooaa.sessionPlays
open Go Go.ChangeShapes Go.WideShapes Go.ChangeAt Go.WideMaps Go.WideElems Go.RowKit
open Go.ChangeMaps (open_string shut_string)
theorem own : ownKnob Try.prog.godebug = none := by kernel_rfl
theorem laidOut : laidOutB Try.prog = true := by kernel_rfl
set_option maxRecDepth 100000 in
theorem lifted (os : Os) (started : os.Started) (H : Type) (enc : TypeId × Value → H) :
    ReturnsInHanded {} Try.checked os 5 .any (Rows.sessionPlaysSpec.pre6 enc Try.prog Try.f5 Rows.sessionPlaysRow.domain false) (Rows.sessionPlaysSpec.post enc Try.prog Try.f5 false true false false) := by
  refine returnsInHanded_of_change (C := Try.checked) own started (by kernel_rfl) Try.func5
    (ChangeSpec.witness6 (enc := enc) (C := Try.checked) false ⟨#[], #[.slice none 0 0], []⟩ 8 (by kernel_rfl) (by kernel_rfl) (by kernel_rfl) (by kernel_rfl)) ?_
  intro W base args ds gs before hval0 hW hcnd _
  have hval : ∀ (j : Nat) t v, Try.f5.params[j]? = some t → args[j]? = some v → Value.okWide Try.prog W .any base t v := hval0
  have hW' := hW
  obtain ⟨p, q, hA0, hV, rfl, hfz, hnd⟩ := hW
  have hA : DataW.TrodAll enc Try.prog W 0 (fun _ => true) true Try.f5.params.toList args.toList ds p := hA0
  rw [Try.params5] at hA hval
  obtain ⟨v0, vs0, d0, ds0, p0, q0, hargs, rfl, rfl, h0, r0⟩ := trodAll_cons hA
  obtain ⟨rfl, rfl, rfl⟩ := trodAll_nil r0
  obtain rfl : args = #[v0] := by cases args; simp_all
  obtain ⟨rfl, rfl⟩ := trodVars_none hV
  have k0 := h0
  have lt0 : ∀ x ∈ p0, x.block < W.heap.size := by obtain ⟨m, hm⟩ := k0; exact DataW.trod_lt m _ _ _ hm
  obtain ⟨a0, len0, cap0, rfl⟩ := okWide_slice Try.underlying22 (hval 0 22 v0 rfl rfl)
  obtain ⟨l0, n0, c0, m0, s0⟩ := list_of_trod (X := ActS) (fun cs x => cs = [.bool x.1, .int .u32 x.2.1, .int .u32 x.2.2.1, .int .u8 x.2.2.2.1, .string x.2.2.2.2] ∧ (Lit.int .u32 x.2.1).wf = true ∧ (Lit.int .u32 x.2.2.1).wf = true ∧ (Lit.int .u8 x.2.2.2.1).wf = true ∧ x.2.2.2.2.size ≤ maxLen) Try.underlying22 (show Try.prog.cellsOf 32 = 5 by kernel_rfl) (by omega) (fun n cs y h => act_of_trod h) h0
  have sb0 : SeesA W a0 l0 := fun j hj => by obtain ⟨b, off, cs, e1, ⟨e2, _⟩, _, e4⟩ := s0 j hj; subst e2; exact ⟨b, off, e1, e4 0 (by omega), e4 1 (by omega), e4 2 (by omega), e4 3 (by omega), e4 4 (by omega)⟩
  have wb0 : ∀ x ∈ l0, x.2.2.2.2.size ≤ 9223372036854775807 ∧ 0 ≤ x.2.1 ∧ x.2.1 < 4294967296 ∧ 0 ≤ x.2.2.1 ∧ x.2.2.1 < 4294967296 ∧ 0 ≤ x.2.2.2.1 := fun x hx => by obtain ⟨j, hj, rfl⟩ := List.getElem_of_mem hx; obtain ⟨b, off, cs, e1, ⟨e2, e5, e6, e7, e8⟩, _, e4⟩ := s0 j hj; have h1 := bounds_u32 e5; have h2 := bounds_u32 e6; have h3 := bounds_u8 e7; unfold maxLen at e8; omega
  clear hA0 hval0
  refine (sessionPlays_any a0 len0 cap0 l0 W n0 (by omega) sb0 wb0).mono fun e W' ⟨he, hmod⟩ => ?_
  have bel := hmod.below0
  subst he
  exact ⟨_, rfl, _, _, _, [], _, [], hW', trodAll_mk1 (shut_bool Try.underlying4 _), (trodAll_cons_mk (Below.trod laidOut (by kernel_rfl) (of_decide_eq_true (by kernel_rfl)) k0 bel lt0) trodAll_mk0), rfl, bel.frame _, fun h => by cases h⟩
theorem row_holds : Rows.SessionPlaysSaid :=
  OpenClaim.holds_of_wide 5 Try.f5 rfl rfl rfl rfl rfl rfl rfl ⟨rfl, rfl, rfl, rfl, rfl⟩ rfl rfl rfl rfl rfl (by kernel_rfl) Try.func5 (by kernel_rfl)
    (of_decide_eq_true (by kernel_rfl)) (by unfold Func.isWrapper; rw [if_neg (of_decide_eq_false (by kernel_rfl))]; exact ⟨rfl, rfl⟩)
    (fun os started H enc _ => lifted os started H enc)
end Go.Proofs.Ytgneigdcgfiooaa.sessionPlays
namespace Go.Proofs.Ytgneigdcgfiooaa
theorem sessionPlays_holds : Rows.SessionPlaysSaid := sessionPlays.row_holds
#print axioms sessionPlays_holds
end Go.Proofs.Ytgneigdcgfiooaa
