/- NetKeeps holds: for every slice of letters and every slice of acts the law returns true and leaves its arguments as they were. -/
import Derived.Test.YtihhbphlhckakaaNetKeeps
import Derived.Test.YtihhbphlhckakaaNetShut2
import Derived.Test.YtihhbphlhckakaaShut
import Derived.Test.YtihhbphlhckakaaRows
import Derived.ProofKit
import Derived.OpenShut
import Derived.ShutString
import Derived.ChangeOld
namespace Go.Proofs.Ytihhbphlhckakaa.netKeeps
open Go Go.ChangeShapes Go.WideShapes Go.ChangeAt Go.WideMaps Go.WideElems Go.RowKit
open Go.ChangeMaps (open_string shut_string)
theorem own : ownKnob Try.prog.godebug = none := by kernel_rfl
theorem laidOut : laidOutB Try.prog = true := by kernel_rfl
set_option maxRecDepth 100000 in
theorem lifted (os : Os) (started : os.Started) (H : Type) (enc : TypeId × Value → H) :
    ReturnsInHanded {} Try.checked os 6 .any (Rows.netKeepsSpec.pre6 enc Try.prog Try.f6 Rows.netKeepsRow.domain false) (Rows.netKeepsSpec.post enc Try.prog Try.f6 false true false false) := by
  refine returnsInHanded_of_change (C := Try.checked) own started (by kernel_rfl) Try.func6
    (ChangeSpec.witness6 (enc := enc) (C := Try.checked) false ⟨#[], #[.slice none 0 0, .slice none 0 0], []⟩ 8 (by kernel_rfl) (by kernel_rfl) (by kernel_rfl) (by kernel_rfl)) ?_
  intro W base args ds gs before hval0 hW hcnd _
  have hval : ∀ (j : Nat) t v, Try.f6.params[j]? = some t → args[j]? = some v → Value.okWide Try.prog W .any base t v := hval0
  have hW' := hW
  obtain ⟨p, q, hA0, hV, rfl, hfz, hnd⟩ := hW
  have hA : DataW.TrodAll enc Try.prog W 0 (fun _ => true) true Try.f6.params.toList args.toList ds p := hA0
  rw [Try.params6] at hA hval
  obtain ⟨v0, vs0, d0, ds0, p0, q0, hargs, rfl, rfl, h0, r0⟩ := trodAll_cons hA
  obtain ⟨v1, vs1, d1, ds1, p1, q1, rfl, rfl, rfl, h1, r1⟩ := trodAll_cons r0
  obtain ⟨rfl, rfl, rfl⟩ := trodAll_nil r1
  obtain rfl : args = #[v0, v1] := by cases args; simp_all
  obtain ⟨rfl, rfl⟩ := trodVars_none hV
  have k0 := h0
  have lt0 : ∀ x ∈ p0, x.block < W.heap.size := by obtain ⟨m, hm⟩ := k0; exact DataW.trod_lt m _ _ _ hm
  obtain ⟨a0, len0, cap0, rfl⟩ := okWide_slice Try.underlying31 (hval 0 31 v0 rfl rfl)
  obtain ⟨l0, n0, c0, m0, s0⟩ := list_of_trod (X := Lt) (fun cs x => cs = letC x ∧ Sees W x.2.2.1 x.2.2.2.2) Try.underlying31 (show Try.prog.cellsOf 29 = 3 by kernel_rfl) (by omega) (fun n cs y h => by obtain ⟨fr, t0, ao, len, cap, l, h1, h2, _, _, h5⟩ := letter_of_trod h; subst h2; exact ⟨(fr, t0, ao, cap, l), h1, h5⟩) h0
  have sb0 : SeesLt W a0 l0 := fun j hj => by obtain ⟨b, off, cs, e1, ⟨e2, e3⟩, _, e4⟩ := s0 j hj; subst e2; exact ⟨b, off, e1, e4 0 (by omega), e4 1 (by omega), e4 2 (by omega), e3⟩
  subst n0
  have k1 := h1
  have lt1 : ∀ x ∈ p1, x.block < W.heap.size := by obtain ⟨m, hm⟩ := k1; exact DataW.trod_lt m _ _ _ hm
  obtain ⟨a1, len1, cap1, rfl⟩ := okWide_slice Try.underlying37 (hval 1 37 v1 rfl rfl)
  obtain ⟨l1, n1, c1, m1, s1⟩ := list_of_trod (X := Ac) (fun cs x => cs = [.int .u8 (x.1 : Int), .int .i64 x.2.1, .int .i64 x.2.2.1, .int .i64 x.2.2.2.1, .int .i64 x.2.2.2.2.1, .slice x.2.2.2.2.2.1 x.2.2.2.2.2.2.2.length x.2.2.2.2.2.2.1] ∧ Sees W x.2.2.2.2.2.1 x.2.2.2.2.2.2.2 ∧ x.1 < 256 ∧ x.2.2.1 ≤ 9223372036854775807) Try.underlying37 (show Try.prog.cellsOf 43 = 6 by kernel_rfl) (by omega) (fun n cs y h => act_of_trod h) h1
  have sb1 : SeesA W a1 l1 := fun j hj => by obtain ⟨b, off, cs, e1, ⟨e2, e3, e5, e6⟩, _, e4⟩ := s1 j hj; subst e2; exact ⟨b, off, e1, e4 0 (by omega), e4 1 (by omega), e4 2 (by omega), e4 3 (by omega), e4 4 (by omega), e4 5 (by omega), e3, e5, e6⟩
  clear hA0 hval0
  refine (netKeeps_any a0 cap0 l0 a1 len1 cap1 l1 W sb0 n1 sb1 (by omega) (by omega)).mono fun e W' ⟨he, hmod⟩ => ?_
  have bel := hmod.below0
  subst he
  exact ⟨_, rfl, _, _, _, [], _, [], hW', trodAll_mk1 (shut_bool Try.underlying4 _), (trodAll_cons_mk (Below.trod laidOut (by kernel_rfl) (of_decide_eq_true (by kernel_rfl)) k0 bel lt0) (trodAll_cons_mk (Below.trod laidOut (by kernel_rfl) (of_decide_eq_true (by kernel_rfl)) k1 bel lt1) trodAll_mk0)), rfl, bel.frame _, fun h => by cases h⟩
theorem row_holds : Rows.NetKeepsSaid :=
  OpenClaim.holds_of_wide 6 Try.f6 rfl rfl rfl rfl rfl rfl rfl ⟨rfl, rfl, rfl, rfl, rfl⟩ rfl rfl rfl rfl rfl (by kernel_rfl) Try.func6 (by kernel_rfl)
    (of_decide_eq_true (by kernel_rfl)) (by unfold Func.isWrapper; rw [if_neg (of_decide_eq_false (by kernel_rfl))]; exact ⟨rfl, rfl⟩)
    (fun os started H enc _ => lifted os started H enc)
end Go.Proofs.Ytihhbphlhckakaa.netKeeps
namespace Go.Proofs.Ytihhbphlhckakaa
theorem netKeeps_holds : Rows.NetKeepsSaid := netKeeps.row_holds
#print axioms netKeeps_holds
end Go.Proofs.Ytihhbphlhckakaa
