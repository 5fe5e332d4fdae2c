/- BatcherAges holds: for every configuration and every slice of acts the law returns true and leaves its arguments as they were. -/
import Derived.Test.YtigamomoegpefaaDoorHBatAges
import Derived.Test.YtigamomoegpefaaDoorHBatShut
import Derived.Test.YtigamomoegpefaaDoorHCmdLaid
import Derived.Test.YtigamomoegpefaaDoorHShut
import Derived.Test.YtigamomoegpefaaDoorRows
import Derived.Test.YtigamomoegpefaaDoorCards
import Derived.Test.YtigamomoegpefaaDoorTie
import Derived.LaidMore
import Derived.Stop.Joined
import Derived.Lib.LaidTab
import Derived.SevenTiedAt
import Derived.ProofKit
import Derived.OpenShut
import Derived.ShutString
import Derived.ChangeOld
namespace Go.Proofs.YtigamomoegpefaaDoor.batcherAges
open Go Go.ChangeShapes Go.WideShapes Go.ChangeAt Go.WideMaps Go.WideElems Go.RowKit
open Go.ChangeMaps (open_string shut_string)
theorem own : ownKnob Tryd.prog.godebug = none := by kernel_rfl
theorem laidOut : laidOutB Tryd.prog = true := by kernel_rfl
abbrev laids : List (String × DataW Unit) := [("quorate/cmd.counts", Rows.laid_quorate_cmd_counts)]
theorem door_met (os : Os) (args : Array Value) : laidMetH Tryd.prog laids ((World.doorLaid Tryd.prog 400 os).forCall (fun _ _ => 0) ⟨#[], args, []⟩).memory :=
  laidMetH_of_parts3 (fuel := 8) (laidMet_of_run' 8 (by kernel_rfl) (by kernel_rfl)) (by kernel_rfl) (by kernel_rfl)
set_option maxRecDepth 100000 in
theorem lifted (os : Os) (started : os.Started) (H : Type) (enc : TypeId × Value → H) :
    ReturnsInHanded {} Tryd.checked os 3 .any (fun w args => (Rows.batcherAgesSpec.pre enc Tryd.prog Tryd.f3 [] false w args ∧ laidMetH Tryd.prog laids w) ∧ sizedMet enc Tryd.prog Tryd.f3 (OpenSpec.ofChange Rows.batcherAgesSpec) false w args)
      (Rows.batcherAgesSpec.post enc Tryd.prog Tryd.f3 false true false false) := by
  refine returnsInHanded_of_change_and (C := Tryd.checked) (X := fun w _ => laidMetH Tryd.prog laids w) (fun _ _ _ hh h => h.of_heap hh) own started (by kernel_rfl) Tryd.func3
    (ChangeSpec.witness_shaped (enc := enc) (C := Tryd.checked) (os := os) (X := fun w _ => laidMetH Tryd.prog laids w) false (World.doorLaid Tryd.prog 400 os) #[.agg #[.int .i64 0, .int .i64 0, .int .i64 0, .int .i64 0, .int .i64 0], .slice none 0 0] 8 rfl (World.shaped_of_RefB (by kernel_rfl) (by kernel_rfl)) (by kernel_rfl) (by kernel_rfl) (by kernel_rfl) (door_met os _)) ?_
  intro W base args ds gs before hval0 hW _ _ hL _
  have hval : ∀ (j : Nat) t v, Tryd.f3.params[j]? = some t → args[j]? = some v → Value.okWide Tryd.prog W .any base t v := hval0
  have hW' := hW
  obtain ⟨p, q, hA0, hV, rfl, hfz, hnd⟩ := hW
  have hA : DataW.TrodAll enc Tryd.prog W 0 (fun _ => true) true Tryd.f3.params.toList args.toList ds p := hA0
  rw [Tryd.params3] at hA hval
  obtain ⟨v0, vs0, d0, ds0, p0, q0, hargs, rfl, rfl, h0, r0⟩ := trodAll_cons hA
  obtain ⟨v1, vs1, d1, ds1, p1, q1, rfl, rfl, rfl, h1, r1⟩ := trodAll_cons r0
  obtain ⟨rfl, rfl, rfl⟩ := trodAll_nil r1
  obtain rfl : args = #[v0, v1] := by cases args; simp_all
  obtain ⟨rfl, rfl⟩ := trodVars_none hV
  have k0 := h0
  have lt0 : ∀ x ∈ p0, x.block < W.heap.size := by obtain ⟨m, hm⟩ := k0; exact DataW.trod_lt m _ _ _ hm
  obtain ⟨cs0, rfl, hcs0⟩ := okWide_struct Tryd.underlying23 (hval 0 23 v0 rfl rfl)
  obtain ⟨fuel0, hf0⟩ := h0
  obtain ⟨xa, xb, xc, xd, xe, hc0⟩ := cfg_of_trod hf0
  have hc0' : cs0.toList = _ := hc0
  obtain rfl : cs0 = #[.int .i64 xa, .int .i64 xb, .int .i64 xc, .int .i64 xd, .int .i64 xe] := Array.toList_inj.1 hc0'
  have k1 := h1
  have lt1 : ∀ x ∈ p1, x.block < W.heap.size := by obtain ⟨m, hm⟩ := k1; exact DataW.trod_lt m _ _ _ hm
  obtain ⟨a1, len1, cap1, rfl⟩ := okWide_slice Tryd.underlying24 (hval 1 24 v1 rfl rfl)
  obtain ⟨l1, n1, c1, m1, s1⟩ := list_of_trod (X := Ab) (fun cs x => cs = [.int .u8 (x.1 : Int), .int .i64 x.2.1, .int .u32 (x.2.2.1.client : Int), .int .u32 (x.2.2.1.seq : Int), .int .u8 (x.2.2.1.kind : Int), .slice x.2.2.2.1 x.2.2.1.keys.length x.2.2.2.2, .string x.2.2.1.old, .string x.2.2.1.fresh, .int .i64 x.2.2.1.n] ∧ SeesT W x.2.2.2.1 x.2.2.1.keys ∧ Wf x.2.2.1) Tryd.underlying24 (show Tryd.prog.cellsOf 38 = 9 by kernel_rfl) (by omega) (fun n cs y h => actb_of_trod h) h1
  have sb1 : SeesA W a1 l1 := fun j hj => by obtain ⟨b, off, cs, e1, ⟨e2, e3, e5⟩, _, e4⟩ := s1 j hj; subst e2; exact ⟨b, off, e1, ⟨e4 0 (by omega), e4 1 (by omega), e4 2 (by omega), e4 3 (by omega), e4 4 (by omega), e4 5 (by omega), e4 6 (by omega), e4 7 (by omega), e4 8 (by omega)⟩, e3, e5⟩
  clear hA0 hval0
  have hLaid := cnt_of_laid hL
  refine (batcherAges_any xa xb xc xd xe a1 len1 cap1 l1 W n1 (by omega) sb1 hLaid).mono fun e W' ⟨he, hmod⟩ => ?_
  have bel := hmod.below0
  subst he
  exact ⟨_, rfl, _, _, _, [], _, [], hW', trodAll_mk1 (shut_bool Tryd.underlying4 _), (trodAll_cons_mk (Below.trod laidOut (by kernel_rfl) (of_decide_eq_true (by kernel_rfl)) k0 bel lt0) (trodAll_cons_mk (Below.trod laidOut (by kernel_rfl) (of_decide_eq_true (by kernel_rfl)) k1 bel lt1) trodAll_mk0)), rfl, bel.frame _, fun h => by cases h⟩
theorem row_holds : Rows.BatcherAgesSaid :=
  OpenClaim.holds_of_wide 3 Tryd.f3 rfl rfl rfl rfl rfl rfl rfl ⟨rfl, rfl, rfl, rfl, rfl⟩ rfl rfl rfl rfl rfl (by kernel_rfl) Tryd.func3 (by kernel_rfl)
    (of_decide_eq_true (by kernel_rfl)) (by unfold Func.isWrapper; rw [if_neg (of_decide_eq_false (by kernel_rfl))]; exact ⟨rfl, rfl⟩)
    (fun os started H enc _ => lifted os started H enc)
theorem card_holds : Rows.BatcherAgesCardSaid :=
  Claim7.holds_tied_plain_at .later [] [.data] true (true, "e48ccd38a7c1f20845a406d1467ea337d2185d52ee86647cf0dfd71860674125") true
    row_holds (fun _ h => by cases h) (by kernel_rfl) (fun _ h => by cases h) batcherAges_row_tie rfl ⟨rfl, rfl⟩ (by kernel_rfl) rfl
    (fun f fn hf hfn => by
      obtain rfl : f = 3 := Option.some.inj ((show Tryd.prog.funcNamed "quorate/quoratelaw19.BatcherAges" = some 3 by kernel_rfl).symm.trans hf) |>.symm
      obtain rfl : fn = Tryd.f3 := (Option.some.inj (Tryd.func3.symm.trans hfn)).symm
      exact ⟨by kernel_rfl, fun j t ht => by
        rw [Tryd.params3] at ht
        have hm : t ∈ [23, 24] := by simpa using Array.mem_of_getElem? ht
        have hall : ([23, 24].all fun u => !Tryd.prog.wantsStandIn u) = true := by kernel_rfl
        exact (show Tryd.prog.wantsStandIn t = false by simpa using List.all_eq_true.1 hall t hm)⟩)
    (by kernel_rfl)
end Go.Proofs.YtigamomoegpefaaDoor.batcherAges
namespace Go.Proofs.YtigamomoegpefaaDoor
theorem batcherAges_holds : Rows.BatcherAgesCardSaid := batcherAges.card_holds
#print axioms batcherAges_holds
end Go.Proofs.YtigamomoegpefaaDoor
