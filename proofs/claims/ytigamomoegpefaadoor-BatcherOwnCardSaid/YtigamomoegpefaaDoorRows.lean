/-
  NARROWER THAN 'FOR EVERY INPUT', by the rows' own cells (each row's printed sentence says how): BatcherAges: laid · BatcherPlays: laid · BatcherNil: laid · BatcherOrder: laid · BatcherOwn: laid.
  DERIVED. THE GIVEN ROWS OF THIS SEAT. 5 by the template 'for every input the law returns true; each argument reads behind the call as it read before'; 0 by the template 'total and deterministic' (their statements: YtigamomoegpefaaDoorTotals.lean).
  GIVEN WITH THE SEED: the statements are not yours to turn. If you find one false, say at which input.
  Laid BY PROGRAM, IN A SANDBOX (cutbox-rows.mjs): the forced cells as the released guide's own fill.sh prints them over the translation 4cb95c7cb81d07c1… (all of the seat's roots in one cut). By AI agents, Wed Nov 11 2026. No macro, syntax, notation, axiom, sorry.
-/
import Derived.Test.YtigamomoegpefaaDoorChecked
import GoSem.Claim
import GoSem.ClaimJoined
import GoSem.ClaimMapViews
import Derived.JoinedTies
import Derived.KernelRfl
namespace Go.Proofs.YtigamomoegpefaaDoor
/- THE CELL 'sum', in the pinned program and in every row, IS THE sha256 OF THE DUMP (.gsa) THAT YtigamomoegpefaaDoorProg.lean LOADS. Nothing in Lean hashes anything: it is a label: what it is worth is what the hold of that sum in a sandbox is worth. -/
noncomputable def Tryd.pinned : Pinned := { name := "ytigamomoegpefaadoor", sum := "4cb95c7cb81d07c1eb473a2b228d99281757beaa860b8744c32fd5cf0a2ecd08", checked := Tryd.checked }
namespace Rows
def none {H : Type} : Left H := { results := [], args := [] }

/- WHAT THE LISTED PACKAGE-LEVEL VARIABLES READ AS WHEN THE CALL BEGINS. Each datum BY PROGRAM (the guide's laid-datum.mjs) off the statement by which the dump's own 'gosem.cut.vars' lays the variable. In a bare row this is a premise. The card (YtigamomoegpefaaDoorCards.lean) ties it to the program's text. -/
def laid_quorate_cmd_counts {H : Type} : DataW H := .agg [.agg [.lit (.int .i64 0), .lit (.int .i64 0)], .agg [.lit (.int .i64 1), .lit (.int .i64 1)], .agg [.lit (.int .i64 1), .lit (.int .i64 1)], .agg [.lit (.int .i64 1), .lit (.int .i64 1)], .agg [.lit (.int .i64 1), .lit (.int .i64 1)], .agg [.lit (.int .i64 1), .lit (.int .i64 1)], .agg [.lit (.int .i64 2), .lit (.int .i64 2)], .agg [.lit (.int .i64 1), .lit (.int .i64 16)], .agg [.lit (.int .i64 1), .lit (.int .i64 16)]]

/-- 'quoratelaw19.BatcherAges': WHATEVER THE INPUT: true; the input reads as it did. -/
def batcherAgesSpec : ChangeSpec := { name := "batcherAges", fn := fun _ => fun
  | [d1, d2] => { results := [.lit (.bool true)], args := [d1, d2] }
  | _ => none }
def batcherAgesRow : OpenClaim := { program := "ytigamomoegpefaadoor", sum := "4cb95c7cb81d07c1eb473a2b228d99281757beaa860b8744c32fd5cf0a2ecd08", func := "quorate/quoratelaw19.BatcherAges", spec := "batcherAges", unfollowed := true, recurses := true, named := ["quorate/cmd.counts"], apart := false, laid := [("quorate/cmd.counts", laid_quorate_cmd_counts)] }
def BatcherAgesSaid : Prop := batcherAgesRow.holds Tryd.pinned (OpenSpec.ofChange batcherAgesSpec)

/-- ITS FALSE NEIGHBOUR: 'it returns false'. Refute it at one input. -/
def batcherAgesWrong : ChangeSpec := { name := "batcherAges", fn := fun _ => fun
  | [d1, d2] => { results := [.lit (.bool false)], args := [d1, d2] }
  | _ => none }
def BatcherAgesWrongFalsely : Prop := batcherAgesRow.holds Tryd.pinned (OpenSpec.ofChange batcherAgesWrong)

/-- 'quoratelaw19.BatcherPlays': WHATEVER THE INPUT: true; the input reads as it did. -/
def batcherPlaysSpec : ChangeSpec := { name := "batcherPlays", fn := fun _ => fun
  | [d1, d2] => { results := [.lit (.bool true)], args := [d1, d2] }
  | _ => none }
def batcherPlaysRow : OpenClaim := { program := "ytigamomoegpefaadoor", sum := "4cb95c7cb81d07c1eb473a2b228d99281757beaa860b8744c32fd5cf0a2ecd08", func := "quorate/quoratelaw19.BatcherPlays", spec := "batcherPlays", unfollowed := true, recurses := true, named := ["quorate/cmd.counts"], apart := false, laid := [("quorate/cmd.counts", laid_quorate_cmd_counts)] }
def BatcherPlaysSaid : Prop := batcherPlaysRow.holds Tryd.pinned (OpenSpec.ofChange batcherPlaysSpec)

/-- ITS FALSE NEIGHBOUR: 'it returns false'. Refute it at one input. -/
def batcherPlaysWrong : ChangeSpec := { name := "batcherPlays", fn := fun _ => fun
  | [d1, d2] => { results := [.lit (.bool false)], args := [d1, d2] }
  | _ => none }
def BatcherPlaysWrongFalsely : Prop := batcherPlaysRow.holds Tryd.pinned (OpenSpec.ofChange batcherPlaysWrong)

/-- 'quoratelaw19.BatcherNil': WHATEVER THE INPUT: true; the input reads as it did. -/
def batcherNilSpec : ChangeSpec := { name := "batcherNil", fn := fun _ => fun
  | [d1, d2] => { results := [.lit (.bool true)], args := [d1, d2] }
  | _ => none }
def batcherNilRow : OpenClaim := { program := "ytigamomoegpefaadoor", sum := "4cb95c7cb81d07c1eb473a2b228d99281757beaa860b8744c32fd5cf0a2ecd08", func := "quorate/quoratelaw19.BatcherNil", spec := "batcherNil", unfollowed := true, recurses := true, named := ["quorate/cmd.counts"], apart := false, laid := [("quorate/cmd.counts", laid_quorate_cmd_counts)] }
def BatcherNilSaid : Prop := batcherNilRow.holds Tryd.pinned (OpenSpec.ofChange batcherNilSpec)

/-- ITS FALSE NEIGHBOUR: 'it returns false'. Refute it at one input. -/
def batcherNilWrong : ChangeSpec := { name := "batcherNil", fn := fun _ => fun
  | [d1, d2] => { results := [.lit (.bool false)], args := [d1, d2] }
  | _ => none }
def BatcherNilWrongFalsely : Prop := batcherNilRow.holds Tryd.pinned (OpenSpec.ofChange batcherNilWrong)

/-- 'quoratelaw19.BatcherOrder': WHATEVER THE INPUT: true; the input reads as it did. -/
def batcherOrderSpec : ChangeSpec := { name := "batcherOrder", fn := fun _ => fun
  | [d1, d2] => { results := [.lit (.bool true)], args := [d1, d2] }
  | _ => none }
def batcherOrderRow : OpenClaim := { program := "ytigamomoegpefaadoor", sum := "4cb95c7cb81d07c1eb473a2b228d99281757beaa860b8744c32fd5cf0a2ecd08", func := "quorate/quoratelaw19.BatcherOrder", spec := "batcherOrder", unfollowed := true, recurses := true, named := ["quorate/cmd.counts"], apart := false, laid := [("quorate/cmd.counts", laid_quorate_cmd_counts)] }
def BatcherOrderSaid : Prop := batcherOrderRow.holds Tryd.pinned (OpenSpec.ofChange batcherOrderSpec)

/-- ITS FALSE NEIGHBOUR: 'it returns false'. Refute it at one input. -/
def batcherOrderWrong : ChangeSpec := { name := "batcherOrder", fn := fun _ => fun
  | [d1, d2] => { results := [.lit (.bool false)], args := [d1, d2] }
  | _ => none }
def BatcherOrderWrongFalsely : Prop := batcherOrderRow.holds Tryd.pinned (OpenSpec.ofChange batcherOrderWrong)

/-- 'quoratelaw19.BatcherOwn': WHATEVER THE INPUT: true; the input reads as it did. -/
def batcherOwnSpec : ChangeSpec := { name := "batcherOwn", fn := fun _ => fun
  | [d1, d2] => { results := [.lit (.bool true)], args := [d1, d2] }
  | _ => none }
def batcherOwnRow : OpenClaim := { program := "ytigamomoegpefaadoor", sum := "4cb95c7cb81d07c1eb473a2b228d99281757beaa860b8744c32fd5cf0a2ecd08", func := "quorate/quoratelaw19.BatcherOwn", spec := "batcherOwn", unfollowed := true, recurses := true, named := ["quorate/cmd.counts"], apart := false, laid := [("quorate/cmd.counts", laid_quorate_cmd_counts)] }
def BatcherOwnSaid : Prop := batcherOwnRow.holds Tryd.pinned (OpenSpec.ofChange batcherOwnSpec)

/-- ITS FALSE NEIGHBOUR: 'it returns false'. Refute it at one input. -/
def batcherOwnWrong : ChangeSpec := { name := "batcherOwn", fn := fun _ => fun
  | [d1, d2] => { results := [.lit (.bool false)], args := [d1, d2] }
  | _ => none }
def BatcherOwnWrongFalsely : Prop := batcherOwnRow.holds Tryd.pinned (OpenSpec.ofChange batcherOwnWrong)

/- THE SECOND FORM. 'bulk': how many values and letters a reading holds, each counted each time it is reached (what is shared counts as often as it is met; a slice's spare places count too). A statement '..UptoSaid' is the law's where the arguments, and the package variables that the reading takes, are together of bulk at most 1048576: NARROWER than '..Said'. Prove '..Said' where nothing that the law and all that it calls make is longer than what came in: it says more and counts as full. Else prove '..UptoSaid'. A law counts once. -/
mutual
def uptoBulk {H : Type} : DataW H → Nat
  | .lit (.string bytes) => bytes.length + 1
  | .lit _ => 1
  | .nil => 1
  | .ptr d => uptoBulk d + 1
  | .slice elems spare => uptoBulkAll elems + uptoBulkAll spare + 1
  | .agg parts => uptoBulkAll parts + 1
  | .iface _ d => uptoBulk d + 1
  | .map entries => uptoBulkEntries entries + 1
  | .held _ => 1
def uptoBulkAll {H : Type} : List (DataW H) → Nat
  | [] => 0
  | d :: r => uptoBulk d + uptoBulkAll r
def uptoBulkEntries {H : Type} : List (Lit × DataW H) → Nat
  | [] => 0
  | x :: r => uptoBulkEntry x + uptoBulkEntries r
def uptoBulkEntry {H : Type} : Lit × DataW H → Nat
  | (.string bytes, d) => bytes.length + uptoBulk d + 1
  | (_, d) => uptoBulk d + 1
 end
def uptoSmall : (H : Type) → List (DataW H) → Bool := fun _ ds => decide (uptoBulkAll ds ≤ 1048576)
def OpenSpec.upto (s : _root_.Go.ChangeSpec) : _root_.Go.OpenSpec := { _root_.Go.OpenSpec.ofChange s with cond := some uptoSmall }

/-- 'quoratelaw19.BatcherAges', WHERE WHAT IT READS IS OF BULK AT MOST 1048576: true; the input reads as it did. -/
def batcherAgesUptoRow : OpenClaim := { program := "ytigamomoegpefaadoor", sum := "4cb95c7cb81d07c1eb473a2b228d99281757beaa860b8744c32fd5cf0a2ecd08", func := "quorate/quoratelaw19.BatcherAges", spec := "batcherAges", unfollowed := true, recurses := true, named := ["quorate/cmd.counts"], apart := false, laid := [("quorate/cmd.counts", laid_quorate_cmd_counts)], narrowed := true }
def BatcherAgesUptoSaid : Prop := batcherAgesUptoRow.holds Tryd.pinned (OpenSpec.upto batcherAgesSpec)

/-- 'quoratelaw19.BatcherPlays', WHERE WHAT IT READS IS OF BULK AT MOST 1048576: true; the input reads as it did. -/
def batcherPlaysUptoRow : OpenClaim := { program := "ytigamomoegpefaadoor", sum := "4cb95c7cb81d07c1eb473a2b228d99281757beaa860b8744c32fd5cf0a2ecd08", func := "quorate/quoratelaw19.BatcherPlays", spec := "batcherPlays", unfollowed := true, recurses := true, named := ["quorate/cmd.counts"], apart := false, laid := [("quorate/cmd.counts", laid_quorate_cmd_counts)], narrowed := true }
def BatcherPlaysUptoSaid : Prop := batcherPlaysUptoRow.holds Tryd.pinned (OpenSpec.upto batcherPlaysSpec)

/-- 'quoratelaw19.BatcherNil', WHERE WHAT IT READS IS OF BULK AT MOST 1048576: true; the input reads as it did. -/
def batcherNilUptoRow : OpenClaim := { program := "ytigamomoegpefaadoor", sum := "4cb95c7cb81d07c1eb473a2b228d99281757beaa860b8744c32fd5cf0a2ecd08", func := "quorate/quoratelaw19.BatcherNil", spec := "batcherNil", unfollowed := true, recurses := true, named := ["quorate/cmd.counts"], apart := false, laid := [("quorate/cmd.counts", laid_quorate_cmd_counts)], narrowed := true }
def BatcherNilUptoSaid : Prop := batcherNilUptoRow.holds Tryd.pinned (OpenSpec.upto batcherNilSpec)

/-- 'quoratelaw19.BatcherOrder', WHERE WHAT IT READS IS OF BULK AT MOST 1048576: true; the input reads as it did. -/
def batcherOrderUptoRow : OpenClaim := { program := "ytigamomoegpefaadoor", sum := "4cb95c7cb81d07c1eb473a2b228d99281757beaa860b8744c32fd5cf0a2ecd08", func := "quorate/quoratelaw19.BatcherOrder", spec := "batcherOrder", unfollowed := true, recurses := true, named := ["quorate/cmd.counts"], apart := false, laid := [("quorate/cmd.counts", laid_quorate_cmd_counts)], narrowed := true }
def BatcherOrderUptoSaid : Prop := batcherOrderUptoRow.holds Tryd.pinned (OpenSpec.upto batcherOrderSpec)

/-- 'quoratelaw19.BatcherOwn', WHERE WHAT IT READS IS OF BULK AT MOST 1048576: true; the input reads as it did. -/
def batcherOwnUptoRow : OpenClaim := { program := "ytigamomoegpefaadoor", sum := "4cb95c7cb81d07c1eb473a2b228d99281757beaa860b8744c32fd5cf0a2ecd08", func := "quorate/quoratelaw19.BatcherOwn", spec := "batcherOwn", unfollowed := true, recurses := true, named := ["quorate/cmd.counts"], apart := false, laid := [("quorate/cmd.counts", laid_quorate_cmd_counts)], narrowed := true }
def BatcherOwnUptoSaid : Prop := batcherOwnUptoRow.holds Tryd.pinned (OpenSpec.upto batcherOwnSpec)

end Rows
end Go.Proofs.YtigamomoegpefaaDoor
