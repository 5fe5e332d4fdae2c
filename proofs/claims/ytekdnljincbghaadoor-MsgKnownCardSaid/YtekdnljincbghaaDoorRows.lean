/-
  NARROWER THAN 'FOR EVERY INPUT', by the rows' own cells (each row's printed sentence says how): MsgPuts: laid · MsgTakes: laid · MsgKnown: laid · MsgSame: laid · MsgBack: laid · MsgBits: laid · MsgOwn: laid.
  DERIVED. THE GIVEN ROWS OF THIS SEAT. 7 by the template 'for every input the law returns true; each argument reads behind the call as it read before'; 0 by the template 'total and deterministic' (their statements: YtekdnljincbghaaDoorTotals.lean).
  GIVEN WITH THE SEED: the statements are not yours to turn. If you find one false, say at which input.
  Laid BY PROGRAM, IN A SANDBOX (cutbox-rows.mjs): the forced cells as the released guide's own fill.sh prints them over the translation a83207dfbc204b82… (all of the seat's roots in one cut). By AI agents, Wed Nov 11 2026. No macro, syntax, notation, axiom, sorry.
-/
import Derived.Test.YtekdnljincbghaaDoorChecked
import GoSem.Claim
import GoSem.ClaimJoined
import GoSem.ClaimMapViews
import Derived.JoinedTies
import Derived.KernelRfl
namespace Go.Proofs.YtekdnljincbghaaDoor
/- THE CELL 'sum', in the pinned program and in every row, IS THE sha256 OF THE DUMP (.gsa) THAT YtekdnljincbghaaDoorProg.lean LOADS. Nothing in Lean hashes anything: it is a label: what it is worth is what the hold of that sum in a sandbox is worth. -/
noncomputable def Tryd.pinned : Pinned := { name := "ytekdnljincbghaadoor", sum := "a83207dfbc204b820ff2122a4facbecb581ab3b17132ed1390f64b78a3a63ef3", checked := Tryd.checked }
namespace Rows
def none {H : Type} : Left H := { results := [], args := [] }

/- WHAT THE LISTED PACKAGE-LEVEL VARIABLES READ AS WHEN THE CALL BEGINS. Each datum BY PROGRAM (the guide's laid-datum.mjs) off the statement by which the dump's own 'gosem.cut.vars' lays the variable. In a bare row this is a premise. The card (YtekdnljincbghaaDoorCards.lean) ties it to the program's text. -/
def laid_quorate_crc_steps {H : Type} : DataW H := .agg [.lit (.int .u32 0), .lit (.int .u32 274646895), .lit (.int .u32 549293790), .lit (.int .u32 820201905), .lit (.int .u32 1098587580), .lit (.int .u32 1361435347), .lit (.int .u32 1640403810), .lit (.int .u32 1905808397), .lit (.int .u32 2197175160), .lit (.int .u32 2460548119), .lit (.int .u32 2722870694), .lit (.int .u32 2987750089), .lit (.int .u32 3280807620), .lit (.int .u32 3553878443), .lit (.int .u32 3811616794), .lit (.int .u32 4084100981)]
def laid_quorate_msg_fields {H : Type} : DataW H := .agg [.lit (.string []), .lit (.string [98]), .lit (.string [98, 99, 118]), .lit (.string [98]), .lit (.string [98, 99, 102, 115]), .lit (.string [98, 102, 108]), .lit (.string [102]), .lit (.string [102, 115]), .lit (.string [102, 112])]

/-- 'quoratelaw17.MsgPuts': WHATEVER THE INPUT: true; the input reads as it did. -/
def msgPutsSpec : ChangeSpec := { name := "msgPuts", fn := fun _ => fun
  | [d] => { results := [.lit (.bool true)], args := [d] }
  | _ => none }
def msgPutsRow : OpenClaim := { program := "ytekdnljincbghaadoor", sum := "a83207dfbc204b820ff2122a4facbecb581ab3b17132ed1390f64b78a3a63ef3", func := "quorate/quoratelaw17.MsgPuts", spec := "msgPuts", inPlace := ["internal/bytealg.IndexByteString", "internal/bytealg.IndexString"], unfollowed := true, recurses := true, named := ["quorate/msg.fields", "internal/bytealg.MaxLen", "quorate/crc.steps"], apart := false, laid := [("quorate/crc.steps", laid_quorate_crc_steps), ("quorate/msg.fields", laid_quorate_msg_fields)] }
def MsgPutsSaid : Prop := msgPutsRow.holds Tryd.pinned (OpenSpec.ofChange msgPutsSpec)

/-- ITS FALSE NEIGHBOUR: 'it returns false'. Refute it at one input. -/
def msgPutsWrong : ChangeSpec := { name := "msgPuts", fn := fun _ => fun
  | [d] => { results := [.lit (.bool false)], args := [d] }
  | _ => none }
def MsgPutsWrongFalsely : Prop := msgPutsRow.holds Tryd.pinned (OpenSpec.ofChange msgPutsWrong)

/-- 'quoratelaw17.MsgTakes': WHATEVER THE INPUT: true; the input reads as it did. -/
def msgTakesSpec : ChangeSpec := { name := "msgTakes", fn := fun _ => fun
  | [d] => { results := [.lit (.bool true)], args := [d] }
  | _ => none }
def msgTakesRow : OpenClaim := { program := "ytekdnljincbghaadoor", sum := "a83207dfbc204b820ff2122a4facbecb581ab3b17132ed1390f64b78a3a63ef3", func := "quorate/quoratelaw17.MsgTakes", spec := "msgTakes", inPlace := ["internal/bytealg.IndexByteString", "internal/bytealg.IndexString"], unfollowed := true, recurses := true, named := ["quorate/msg.fields", "internal/bytealg.MaxLen", "quorate/crc.steps"], apart := false, laid := [("quorate/crc.steps", laid_quorate_crc_steps), ("quorate/msg.fields", laid_quorate_msg_fields)] }
def MsgTakesSaid : Prop := msgTakesRow.holds Tryd.pinned (OpenSpec.ofChange msgTakesSpec)

/-- ITS FALSE NEIGHBOUR: 'it returns false'. Refute it at one input. -/
def msgTakesWrong : ChangeSpec := { name := "msgTakes", fn := fun _ => fun
  | [d] => { results := [.lit (.bool false)], args := [d] }
  | _ => none }
def MsgTakesWrongFalsely : Prop := msgTakesRow.holds Tryd.pinned (OpenSpec.ofChange msgTakesWrong)

/-- 'quoratelaw17.MsgKnown': WHATEVER THE INPUT: true; the input reads as it did. -/
def msgKnownSpec : ChangeSpec := { name := "msgKnown", fn := fun _ => fun
  | [] => { results := [.lit (.bool true)], args := [] }
  | _ => none }
def msgKnownRow : OpenClaim := { program := "ytekdnljincbghaadoor", sum := "a83207dfbc204b820ff2122a4facbecb581ab3b17132ed1390f64b78a3a63ef3", func := "quorate/quoratelaw17.MsgKnown", spec := "msgKnown", inPlace := ["internal/bytealg.IndexByteString", "internal/bytealg.IndexString"], unfollowed := true, recurses := true, named := ["quorate/msg.fields", "internal/bytealg.MaxLen", "quorate/crc.steps"], apart := false, laid := [("quorate/crc.steps", laid_quorate_crc_steps), ("quorate/msg.fields", laid_quorate_msg_fields)] }
def MsgKnownSaid : Prop := msgKnownRow.holds Tryd.pinned (OpenSpec.ofChange msgKnownSpec)

/-- ITS FALSE NEIGHBOUR: 'it returns false'. Refute it at one input. -/
def msgKnownWrong : ChangeSpec := { name := "msgKnown", fn := fun _ => fun
  | [] => { results := [.lit (.bool false)], args := [] }
  | _ => none }
def MsgKnownWrongFalsely : Prop := msgKnownRow.holds Tryd.pinned (OpenSpec.ofChange msgKnownWrong)

/-- 'quoratelaw17.MsgSame': WHATEVER THE INPUT: true; the input reads as it did. -/
def msgSameSpec : ChangeSpec := { name := "msgSame", fn := fun _ => fun
  | [d1, d2] => { results := [.lit (.bool true)], args := [d1, d2] }
  | _ => none }
def msgSameRow : OpenClaim := { program := "ytekdnljincbghaadoor", sum := "a83207dfbc204b820ff2122a4facbecb581ab3b17132ed1390f64b78a3a63ef3", func := "quorate/quoratelaw17.MsgSame", spec := "msgSame", inPlace := ["internal/bytealg.IndexByteString", "internal/bytealg.IndexString"], unfollowed := true, recurses := true, named := ["quorate/msg.fields", "internal/bytealg.MaxLen", "quorate/crc.steps"], apart := false, laid := [("quorate/crc.steps", laid_quorate_crc_steps), ("quorate/msg.fields", laid_quorate_msg_fields)] }
def MsgSameSaid : Prop := msgSameRow.holds Tryd.pinned (OpenSpec.ofChange msgSameSpec)

/-- ITS FALSE NEIGHBOUR: 'it returns false'. Refute it at one input. -/
def msgSameWrong : ChangeSpec := { name := "msgSame", fn := fun _ => fun
  | [d1, d2] => { results := [.lit (.bool false)], args := [d1, d2] }
  | _ => none }
def MsgSameWrongFalsely : Prop := msgSameRow.holds Tryd.pinned (OpenSpec.ofChange msgSameWrong)

/-- 'quoratelaw17.MsgBack': WHATEVER THE INPUT: true; the input reads as it did. -/
def msgBackSpec : ChangeSpec := { name := "msgBack", fn := fun _ => fun
  | [d1, d2, d3] => { results := [.lit (.bool true)], args := [d1, d2, d3] }
  | _ => none }
def msgBackRow : OpenClaim := { program := "ytekdnljincbghaadoor", sum := "a83207dfbc204b820ff2122a4facbecb581ab3b17132ed1390f64b78a3a63ef3", func := "quorate/quoratelaw17.MsgBack", spec := "msgBack", inPlace := ["internal/bytealg.IndexByteString", "internal/bytealg.IndexString"], unfollowed := true, recurses := true, named := ["quorate/msg.fields", "internal/bytealg.MaxLen", "quorate/crc.steps"], apart := false, laid := [("quorate/crc.steps", laid_quorate_crc_steps), ("quorate/msg.fields", laid_quorate_msg_fields)] }
def MsgBackSaid : Prop := msgBackRow.holds Tryd.pinned (OpenSpec.ofChange msgBackSpec)

/-- ITS FALSE NEIGHBOUR: 'it returns false'. Refute it at one input. -/
def msgBackWrong : ChangeSpec := { name := "msgBack", fn := fun _ => fun
  | [d1, d2, d3] => { results := [.lit (.bool false)], args := [d1, d2, d3] }
  | _ => none }
def MsgBackWrongFalsely : Prop := msgBackRow.holds Tryd.pinned (OpenSpec.ofChange msgBackWrong)

/-- 'quoratelaw17.MsgBits': WHATEVER THE INPUT: true; the input reads as it did. -/
def msgBitsSpec : ChangeSpec := { name := "msgBits", fn := fun _ => fun
  | [d1, d2] => { results := [.lit (.bool true)], args := [d1, d2] }
  | _ => none }
def msgBitsRow : OpenClaim := { program := "ytekdnljincbghaadoor", sum := "a83207dfbc204b820ff2122a4facbecb581ab3b17132ed1390f64b78a3a63ef3", func := "quorate/quoratelaw17.MsgBits", spec := "msgBits", inPlace := ["internal/bytealg.IndexByteString", "internal/bytealg.IndexString"], unfollowed := true, recurses := true, named := ["quorate/msg.fields", "internal/bytealg.MaxLen", "quorate/crc.steps"], apart := false, laid := [("quorate/crc.steps", laid_quorate_crc_steps), ("quorate/msg.fields", laid_quorate_msg_fields)] }
def MsgBitsSaid : Prop := msgBitsRow.holds Tryd.pinned (OpenSpec.ofChange msgBitsSpec)

/-- ITS FALSE NEIGHBOUR: 'it returns false'. Refute it at one input. -/
def msgBitsWrong : ChangeSpec := { name := "msgBits", fn := fun _ => fun
  | [d1, d2] => { results := [.lit (.bool false)], args := [d1, d2] }
  | _ => none }
def MsgBitsWrongFalsely : Prop := msgBitsRow.holds Tryd.pinned (OpenSpec.ofChange msgBitsWrong)

/-- 'quoratelaw17.MsgOwn': WHATEVER THE INPUT: true; the input reads as it did. -/
def msgOwnSpec : ChangeSpec := { name := "msgOwn", fn := fun _ => fun
  | [d] => { results := [.lit (.bool true)], args := [d] }
  | _ => none }
def msgOwnRow : OpenClaim := { program := "ytekdnljincbghaadoor", sum := "a83207dfbc204b820ff2122a4facbecb581ab3b17132ed1390f64b78a3a63ef3", func := "quorate/quoratelaw17.MsgOwn", spec := "msgOwn", inPlace := ["internal/bytealg.IndexByteString", "internal/bytealg.IndexString"], unfollowed := true, recurses := true, named := ["quorate/msg.fields", "internal/bytealg.MaxLen", "quorate/crc.steps"], apart := false, laid := [("quorate/crc.steps", laid_quorate_crc_steps), ("quorate/msg.fields", laid_quorate_msg_fields)] }
def MsgOwnSaid : Prop := msgOwnRow.holds Tryd.pinned (OpenSpec.ofChange msgOwnSpec)

/-- ITS FALSE NEIGHBOUR: 'it returns false'. Refute it at one input. -/
def msgOwnWrong : ChangeSpec := { name := "msgOwn", fn := fun _ => fun
  | [d] => { results := [.lit (.bool false)], args := [d] }
  | _ => none }
def MsgOwnWrongFalsely : Prop := msgOwnRow.holds Tryd.pinned (OpenSpec.ofChange msgOwnWrong)

/- THE SECOND FORM. 'bulk': how many values and letters a reading holds, each counted each time it is reached (what is shared counts as often as it is met; a slice's spare places count too). A statement '..UptoSaid' is the law's where the arguments, and the package variables that the reading takes, are together of bulk at most 1048576: NARROWER than '..Said'. Prove '..Said' where nothing that the law and all that it calls make is longer than what came in: it says more and counts as full. Else prove '..UptoSaid'. A law counts once. -/
mutual
def uptoBulk {H : Type} : DataW H → Nat
  | .lit (.string bytes) => bytes.length + 1
  | .lit _ => 1
  | .nil => 1
  | .ptr d => uptoBulk d + 1
  | .slice elems spare => uptoBulkAll elems + uptoBulkAll spare + 1
  | .agg parts => uptoBulkAll parts + 1
  | .iface _ d => uptoBulk d + 1
  | .map entries => uptoBulkEntries entries + 1
  | .held _ => 1
def uptoBulkAll {H : Type} : List (DataW H) → Nat
  | [] => 0
  | d :: r => uptoBulk d + uptoBulkAll r
def uptoBulkEntries {H : Type} : List (Lit × DataW H) → Nat
  | [] => 0
  | x :: r => uptoBulkEntry x + uptoBulkEntries r
def uptoBulkEntry {H : Type} : Lit × DataW H → Nat
  | (.string bytes, d) => bytes.length + uptoBulk d + 1
  | (_, d) => uptoBulk d + 1
 end
def uptoSmall : (H : Type) → List (DataW H) → Bool := fun _ ds => decide (uptoBulkAll ds ≤ 1048576)
def OpenSpec.upto (s : _root_.Go.ChangeSpec) : _root_.Go.OpenSpec := { _root_.Go.OpenSpec.ofChange s with cond := some uptoSmall }

/-- 'quoratelaw17.MsgPuts', WHERE WHAT IT READS IS OF BULK AT MOST 1048576: true; the input reads as it did. -/
def msgPutsUptoRow : OpenClaim := { program := "ytekdnljincbghaadoor", sum := "a83207dfbc204b820ff2122a4facbecb581ab3b17132ed1390f64b78a3a63ef3", func := "quorate/quoratelaw17.MsgPuts", spec := "msgPuts", inPlace := ["internal/bytealg.IndexByteString", "internal/bytealg.IndexString"], unfollowed := true, recurses := true, named := ["quorate/msg.fields", "internal/bytealg.MaxLen", "quorate/crc.steps"], apart := false, laid := [("quorate/crc.steps", laid_quorate_crc_steps), ("quorate/msg.fields", laid_quorate_msg_fields)], narrowed := true }
def MsgPutsUptoSaid : Prop := msgPutsUptoRow.holds Tryd.pinned (OpenSpec.upto msgPutsSpec)

/-- 'quoratelaw17.MsgTakes', WHERE WHAT IT READS IS OF BULK AT MOST 1048576: true; the input reads as it did. -/
def msgTakesUptoRow : OpenClaim := { program := "ytekdnljincbghaadoor", sum := "a83207dfbc204b820ff2122a4facbecb581ab3b17132ed1390f64b78a3a63ef3", func := "quorate/quoratelaw17.MsgTakes", spec := "msgTakes", inPlace := ["internal/bytealg.IndexByteString", "internal/bytealg.IndexString"], unfollowed := true, recurses := true, named := ["quorate/msg.fields", "internal/bytealg.MaxLen", "quorate/crc.steps"], apart := false, laid := [("quorate/crc.steps", laid_quorate_crc_steps), ("quorate/msg.fields", laid_quorate_msg_fields)], narrowed := true }
def MsgTakesUptoSaid : Prop := msgTakesUptoRow.holds Tryd.pinned (OpenSpec.upto msgTakesSpec)

/-- 'quoratelaw17.MsgKnown', WHERE WHAT IT READS IS OF BULK AT MOST 1048576: true; the input reads as it did. -/
def msgKnownUptoRow : OpenClaim := { program := "ytekdnljincbghaadoor", sum := "a83207dfbc204b820ff2122a4facbecb581ab3b17132ed1390f64b78a3a63ef3", func := "quorate/quoratelaw17.MsgKnown", spec := "msgKnown", inPlace := ["internal/bytealg.IndexByteString", "internal/bytealg.IndexString"], unfollowed := true, recurses := true, named := ["quorate/msg.fields", "internal/bytealg.MaxLen", "quorate/crc.steps"], apart := false, laid := [("quorate/crc.steps", laid_quorate_crc_steps), ("quorate/msg.fields", laid_quorate_msg_fields)], narrowed := true }
def MsgKnownUptoSaid : Prop := msgKnownUptoRow.holds Tryd.pinned (OpenSpec.upto msgKnownSpec)

/-- 'quoratelaw17.MsgSame', WHERE WHAT IT READS IS OF BULK AT MOST 1048576: true; the input reads as it did. -/
def msgSameUptoRow : OpenClaim := { program := "ytekdnljincbghaadoor", sum := "a83207dfbc204b820ff2122a4facbecb581ab3b17132ed1390f64b78a3a63ef3", func := "quorate/quoratelaw17.MsgSame", spec := "msgSame", inPlace := ["internal/bytealg.IndexByteString", "internal/bytealg.IndexString"], unfollowed := true, recurses := true, named := ["quorate/msg.fields", "internal/bytealg.MaxLen", "quorate/crc.steps"], apart := false, laid := [("quorate/crc.steps", laid_quorate_crc_steps), ("quorate/msg.fields", laid_quorate_msg_fields)], narrowed := true }
def MsgSameUptoSaid : Prop := msgSameUptoRow.holds Tryd.pinned (OpenSpec.upto msgSameSpec)

/-- 'quoratelaw17.MsgBack', WHERE WHAT IT READS IS OF BULK AT MOST 1048576: true; the input reads as it did. -/
def msgBackUptoRow : OpenClaim := { program := "ytekdnljincbghaadoor", sum := "a83207dfbc204b820ff2122a4facbecb581ab3b17132ed1390f64b78a3a63ef3", func := "quorate/quoratelaw17.MsgBack", spec := "msgBack", inPlace := ["internal/bytealg.IndexByteString", "internal/bytealg.IndexString"], unfollowed := true, recurses := true, named := ["quorate/msg.fields", "internal/bytealg.MaxLen", "quorate/crc.steps"], apart := false, laid := [("quorate/crc.steps", laid_quorate_crc_steps), ("quorate/msg.fields", laid_quorate_msg_fields)], narrowed := true }
def MsgBackUptoSaid : Prop := msgBackUptoRow.holds Tryd.pinned (OpenSpec.upto msgBackSpec)

/-- 'quoratelaw17.MsgBits', WHERE WHAT IT READS IS OF BULK AT MOST 1048576: true; the input reads as it did. -/
def msgBitsUptoRow : OpenClaim := { program := "ytekdnljincbghaadoor", sum := "a83207dfbc204b820ff2122a4facbecb581ab3b17132ed1390f64b78a3a63ef3", func := "quorate/quoratelaw17.MsgBits", spec := "msgBits", inPlace := ["internal/bytealg.IndexByteString", "internal/bytealg.IndexString"], unfollowed := true, recurses := true, named := ["quorate/msg.fields", "internal/bytealg.MaxLen", "quorate/crc.steps"], apart := false, laid := [("quorate/crc.steps", laid_quorate_crc_steps), ("quorate/msg.fields", laid_quorate_msg_fields)], narrowed := true }
def MsgBitsUptoSaid : Prop := msgBitsUptoRow.holds Tryd.pinned (OpenSpec.upto msgBitsSpec)

/-- 'quoratelaw17.MsgOwn', WHERE WHAT IT READS IS OF BULK AT MOST 1048576: true; the input reads as it did. -/
def msgOwnUptoRow : OpenClaim := { program := "ytekdnljincbghaadoor", sum := "a83207dfbc204b820ff2122a4facbecb581ab3b17132ed1390f64b78a3a63ef3", func := "quorate/quoratelaw17.MsgOwn", spec := "msgOwn", inPlace := ["internal/bytealg.IndexByteString", "internal/bytealg.IndexString"], unfollowed := true, recurses := true, named := ["quorate/msg.fields", "internal/bytealg.MaxLen", "quorate/crc.steps"], apart := false, laid := [("quorate/crc.steps", laid_quorate_crc_steps), ("quorate/msg.fields", laid_quorate_msg_fields)], narrowed := true }
def MsgOwnUptoSaid : Prop := msgOwnUptoRow.holds Tryd.pinned (OpenSpec.upto msgOwnSpec)

end Rows
end Go.Proofs.YtekdnljincbghaaDoor
