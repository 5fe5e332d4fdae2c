/-
  DERIVED. GIVEN WITH THE SEED: THE CARDS: each row of YtaagfoeedngdjaaDoorRows.lean that lists a variable, with what it lists TIED to the program's text (the seventh form; the later family's looks); each row that meets fmt, with fmt's text TOLD by the authors' own Lean function (tested against real Go, not proved from fmt's source: count such statements apart). THE CARD IS WHAT COUNTS. Prove the row's statement (the work); the ties are given (YtaagfoeedngdjaaDoorTie.lean); close each card by the builder's one call (the guide's Derived/Test/ToyasCard.lean, 'card_holds'). Laid BY PROGRAM, IN A SANDBOX (cutbox-door.mjs). By AI agents, Wed Nov 11 2026. No macro, syntax, notation, axiom, sorry.
-/
import Derived.Test.YtaagfoeedngdjaaDoorRows
import GoSem.ClaimSeven
namespace Go.Proofs.YtaagfoeedngdjaaDoor
namespace Rows

/-- THE TIED CARD OF 'quoratelaw08.CmdBack'. -/
def cmdBackCard : Claim7 := { stood := { row := cmdBackRow, standIns := [], harness := (true, "6ed182b0146874aae01b04b629f3a7a32ea3f86bcdfd4e7055c26f67531fc5aa"), looks := false }, kinds := [], alts := [], laidByText := true, laidKinds := [.data], laidTests := true, laidLooks := .later }
def CmdBackCardSaid : Prop := Claim7.holds Tryd.pinned (.plain (OpenSpec.ofChange cmdBackSpec)) cmdBackCard

/-- THE TIED CARD OF 'quoratelaw08.CmdTakes'. -/
def cmdTakesCard : Claim7 := { stood := { row := cmdTakesRow, standIns := [], harness := (true, "6ed182b0146874aae01b04b629f3a7a32ea3f86bcdfd4e7055c26f67531fc5aa"), looks := false }, kinds := [], alts := [], laidByText := true, laidKinds := [.data], laidTests := true, laidLooks := .later }
def CmdTakesCardSaid : Prop := Claim7.holds Tryd.pinned (.plain (OpenSpec.ofChange cmdTakesSpec)) cmdTakesCard

/-- THE TIED CARD OF 'quoratelaw08.CmdTells'. -/
def cmdTellsCard : Claim7 := { stood := { row := cmdTellsRow, standIns := [], harness := (true, "6ed182b0146874aae01b04b629f3a7a32ea3f86bcdfd4e7055c26f67531fc5aa"), looks := false }, kinds := [], alts := [], laidByText := true, laidKinds := [.data], laidTests := true, laidLooks := .later }
def CmdTellsCardSaid : Prop := Claim7.holds Tryd.pinned (.plain (OpenSpec.ofChange cmdTellsSpec)) cmdTellsCard

/-- THE SECOND FORM's CARD OF 'quoratelaw08.CmdBack'. -/
def cmdBackUptoCard : Claim7 := { stood := { row := cmdBackUptoRow, standIns := [], harness := (true, "6ed182b0146874aae01b04b629f3a7a32ea3f86bcdfd4e7055c26f67531fc5aa"), looks := false }, kinds := [], alts := [], laidByText := true, laidKinds := [.data], laidTests := true, laidLooks := .later }
def CmdBackUptoCardSaid : Prop := Claim7.holds Tryd.pinned (.plain (OpenSpec.upto cmdBackSpec)) cmdBackUptoCard

/-- THE SECOND FORM's CARD OF 'quoratelaw08.CmdTakes'. -/
def cmdTakesUptoCard : Claim7 := { stood := { row := cmdTakesUptoRow, standIns := [], harness := (true, "6ed182b0146874aae01b04b629f3a7a32ea3f86bcdfd4e7055c26f67531fc5aa"), looks := false }, kinds := [], alts := [], laidByText := true, laidKinds := [.data], laidTests := true, laidLooks := .later }
def CmdTakesUptoCardSaid : Prop := Claim7.holds Tryd.pinned (.plain (OpenSpec.upto cmdTakesSpec)) cmdTakesUptoCard

/-- THE SECOND FORM's CARD OF 'quoratelaw08.CmdTells'. -/
def cmdTellsUptoCard : Claim7 := { stood := { row := cmdTellsUptoRow, standIns := [], harness := (true, "6ed182b0146874aae01b04b629f3a7a32ea3f86bcdfd4e7055c26f67531fc5aa"), looks := false }, kinds := [], alts := [], laidByText := true, laidKinds := [.data], laidTests := true, laidLooks := .later }
def CmdTellsUptoCardSaid : Prop := Claim7.holds Tryd.pinned (.plain (OpenSpec.upto cmdTellsSpec)) cmdTellsUptoCard
end Rows
end Go.Proofs.YtaagfoeedngdjaaDoor
