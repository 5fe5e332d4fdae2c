/- CmdTells holds: for every row of commands and every two commands the law returns true and leaves its arguments as they were. -/
import Derived.Test.YtaagfoeedngdjaaDoorCmdTells
import Derived.Test.YtaagfoeedngdjaaDoorCmdShut
import Derived.Test.YtaagfoeedngdjaaDoorCmdLaid
import Derived.Test.YtaagfoeedngdjaaDoorShut
import Derived.Test.YtaagfoeedngdjaaDoorRows
import Derived.Test.YtaagfoeedngdjaaDoorCards
import Derived.Test.YtaagfoeedngdjaaDoorTie
import Derived.LaidMore
import Derived.Stop.Joined
import Derived.Lib.LaidTab
import Derived.SevenTiedAt
import Derived.ProofKit
import Derived.OpenShut
import Derived.ShutString
import Derived.ChangeOld
namespace Go.Proofs.YtaagfoeedngdjaaDoor.cmdTells
open Go Go.ChangeShapes Go.WideShapes Go.ChangeAt Go.WideMaps Go.WideElems Go.RowKit
open Go.ChangeMaps (open_string shut_string)
theorem own : ownKnob Tryd.prog.godebug = none := by kernel_rfl
theorem laidOut : laidOutB Tryd.prog = true := by kernel_rfl
abbrev laids : List (String × DataW Unit) := [("quorate/cmd.counts", Rows.laid_quorate_cmd_counts)]
theorem door_met (os : Os) (args : Array Value) : laidMetH Tryd.prog laids ((World.doorLaid Tryd.prog 400 os).forCall (fun _ _ => 0) ⟨#[], args, []⟩).memory :=
  laidMetH_of_parts3 (fuel := 8) (laidMet_of_run' 8 (by kernel_rfl) (by kernel_rfl)) (by kernel_rfl) (by kernel_rfl)
set_option maxRecDepth 100000 in
theorem lifted (os : Os) (started : os.Started) (H : Type) (enc : TypeId × Value → H) :
    ReturnsInHanded {} Tryd.checked os 5 .any (fun w args => (Rows.cmdTellsSpec.pre enc Tryd.prog Tryd.f5 [] false w args ∧ laidMetH Tryd.prog laids w) ∧ sizedMet enc Tryd.prog Tryd.f5 (OpenSpec.ofChange Rows.cmdTellsSpec) false w args)
      (Rows.cmdTellsSpec.post enc Tryd.prog Tryd.f5 false true false false) := by
  refine returnsInHanded_of_change_and (C := Tryd.checked) (X := fun w _ => laidMetH Tryd.prog laids w) (fun _ _ _ hh h => h.of_heap hh) own started (by kernel_rfl) Tryd.func5
    (ChangeSpec.witness_shaped (enc := enc) (C := Tryd.checked) (os := os) (X := fun w _ => laidMetH Tryd.prog laids w) false (World.doorLaid Tryd.prog 400 os) #[.slice none 0 0, .agg #[.int .u32 0, .int .u32 0, .int .u8 0, .slice none 0 0, .string ByteArray.empty, .string ByteArray.empty, .int .i64 0], .agg #[.int .u32 0, .int .u32 0, .int .u8 0, .slice none 0 0, .string ByteArray.empty, .string ByteArray.empty, .int .i64 0]] 8 rfl (World.shaped_of_RefB (by kernel_rfl) (by kernel_rfl)) (by kernel_rfl) (by kernel_rfl) (by kernel_rfl) (door_met os _)) ?_
  intro W base args ds gs before hval0 hW _ _ hL _
  have hval : ∀ (j : Nat) t v, Tryd.f5.params[j]? = some t → args[j]? = some v → Value.okWide Tryd.prog W .any base t v := hval0
  have hW' := hW
  obtain ⟨p, q, hA0, hV, rfl, hfz, hnd⟩ := hW
  have hA : DataW.TrodAll enc Tryd.prog W 0 (fun _ => true) true Tryd.f5.params.toList args.toList ds p := hA0
  rw [Tryd.params5] at hA hval
  obtain ⟨v0, vs0, d0, ds0, p0, q0, hargs, rfl, rfl, h0, r0⟩ := trodAll_cons hA
  obtain ⟨v1, vs1, d1, ds1, p1, q1, rfl, rfl, rfl, h1, r1⟩ := trodAll_cons r0
  obtain ⟨v2, vs2, d2, ds2, p2, q2, rfl, rfl, rfl, h2, r2⟩ := trodAll_cons r1
  obtain ⟨rfl, rfl, rfl⟩ := trodAll_nil r2
  obtain rfl : args = #[v0, v1, v2] := by cases args; simp_all
  obtain ⟨rfl, rfl⟩ := trodVars_none hV
  have k0 := h0
  have lt0 : ∀ x ∈ p0, x.block < W.heap.size := by obtain ⟨m, hm⟩ := k0; exact DataW.trod_lt m _ _ _ hm
  obtain ⟨a0, len0, cap0, rfl⟩ := okWide_slice Tryd.underlying22 (hval 0 22 v0 rfl rfl)
  obtain ⟨l0, n0, c0, m0, s0⟩ := list_of_trod (X := Cm) (fun cs x => cs = [.int .u32 (x.1.client : Int), .int .u32 (x.1.seq : Int), .int .u8 (x.1.kind : Int), .slice x.2.1 x.1.keys.length x.2.2, .string x.1.old, .string x.1.fresh, .int .i64 x.1.n] ∧ SeesT W x.2.1 x.1.keys ∧ Wf x.1) Tryd.underlying22 (show Tryd.prog.cellsOf 36 = 7 by kernel_rfl) (by omega) (fun n cs y h => cmd_of_trod h) h0
  have sb0 : SeesC W a0 l0 := fun j hj => by obtain ⟨b, off, cs, e1, ⟨e2, e3, e5⟩, _, e4⟩ := s0 j hj; subst e2; exact ⟨b, off, e1, e4 0 (by omega), e4 1 (by omega), e4 2 (by omega), e4 3 (by omega), e4 4 (by omega), e4 5 (by omega), e4 6 (by omega), e3, e5⟩
  have k1 := h1
  have lt1 : ∀ x ∈ p1, x.block < W.heap.size := by obtain ⟨m, hm⟩ := k1; exact DataW.trod_lt m _ _ _ hm
  obtain ⟨cs1, rfl, hcs1⟩ := okWide_struct Tryd.underlying36 (hval 1 36 v1 rfl rfl)
  obtain ⟨fuel1, hf1⟩ := h1
  obtain ⟨x1, hc1, t1, wf1⟩ := cmd_of_trod hf1
  have hc1' : cs1.toList = _ := hc1
  obtain rfl : cs1 = #[.int .u32 (x1.1.client : Int), .int .u32 (x1.1.seq : Int), .int .u8 (x1.1.kind : Int), .slice x1.2.1 x1.1.keys.length x1.2.2, .string x1.1.old, .string x1.1.fresh, .int .i64 x1.1.n] := Array.toList_inj.1 hc1'
  have k2 := h2
  have lt2 : ∀ x ∈ p2, x.block < W.heap.size := by obtain ⟨m, hm⟩ := k2; exact DataW.trod_lt m _ _ _ hm
  obtain ⟨cs2, rfl, hcs2⟩ := okWide_struct Tryd.underlying36 (hval 2 36 v2 rfl rfl)
  obtain ⟨fuel2, hf2⟩ := h2
  obtain ⟨x2, hc2, t2, wf2⟩ := cmd_of_trod hf2
  have hc2' : cs2.toList = _ := hc2
  obtain rfl : cs2 = #[.int .u32 (x2.1.client : Int), .int .u32 (x2.1.seq : Int), .int .u8 (x2.1.kind : Int), .slice x2.2.1 x2.1.keys.length x2.2.2, .string x2.1.old, .string x2.1.fresh, .int .i64 x2.1.n] := Array.toList_inj.1 hc2'
  clear hA0 hval0
  have hLaid := cnt_of_laid hL
  refine (cmdTells_any a0 len0 cap0 l0 x1 x2 W n0 (by omega) sb0 wf1 t1 wf2 t2 hLaid).mono fun e W' ⟨he, hmod⟩ => ?_
  have bel := hmod.below0
  subst he
  exact ⟨_, rfl, _, _, _, [], _, [], hW', trodAll_mk1 (shut_bool Tryd.underlying4 _), (trodAll_cons_mk (Below.trod laidOut (by kernel_rfl) (of_decide_eq_true (by kernel_rfl)) k0 bel lt0) (trodAll_cons_mk (Below.trod laidOut (by kernel_rfl) (of_decide_eq_true (by kernel_rfl)) k1 bel lt1) (trodAll_cons_mk (Below.trod laidOut (by kernel_rfl) (of_decide_eq_true (by kernel_rfl)) k2 bel lt2) trodAll_mk0))), rfl, bel.frame _, fun h => by cases h⟩
theorem row_holds : Rows.CmdTellsSaid :=
  OpenClaim.holds_of_wide 5 Tryd.f5 rfl rfl rfl rfl rfl rfl rfl ⟨rfl, rfl, rfl, rfl, rfl⟩ rfl rfl rfl rfl rfl (by kernel_rfl) Tryd.func5 (by kernel_rfl)
    (of_decide_eq_true (by kernel_rfl)) (by unfold Func.isWrapper; rw [if_neg (of_decide_eq_false (by kernel_rfl))]; exact ⟨rfl, rfl⟩)
    (fun os started H enc _ => lifted os started H enc)
theorem card_holds : Rows.CmdTellsCardSaid :=
  Claim7.holds_tied_plain_at .later [] [.data] true (true, "6ed182b0146874aae01b04b629f3a7a32ea3f86bcdfd4e7055c26f67531fc5aa") false
    row_holds (fun _ h => by cases h) (by kernel_rfl) (fun _ h => by cases h) cmdTells_row_tie rfl ⟨rfl, rfl⟩ (by kernel_rfl) rfl
    (fun f fn hf hfn => by
      obtain rfl : f = 5 := Option.some.inj ((show Tryd.prog.funcNamed "quorate/quoratelaw08.CmdTells" = some 5 by kernel_rfl).symm.trans hf) |>.symm
      obtain rfl : fn = Tryd.f5 := (Option.some.inj (Tryd.func5.symm.trans hfn)).symm
      exact ⟨by kernel_rfl, fun j t ht => by
        rw [Tryd.params5] at ht
        have hm : t ∈ [22, 36, 36] := by simpa using Array.mem_of_getElem? ht
        have hall : ([22, 36, 36].all fun u => !Tryd.prog.wantsStandIn u) = true := by kernel_rfl
        exact (show Tryd.prog.wantsStandIn t = false by simpa using List.all_eq_true.1 hall t hm)⟩)
    (by kernel_rfl)
end Go.Proofs.YtaagfoeedngdjaaDoor.cmdTells
namespace Go.Proofs.YtaagfoeedngdjaaDoor
theorem cmdTells_holds : Rows.CmdTellsCardSaid := cmdTells.card_holds
#print axioms cmdTells_holds
end Go.Proofs.YtaagfoeedngdjaaDoor
