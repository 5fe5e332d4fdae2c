/-
  DERIVED. GIVEN WITH THE SEED: THE CARDS: each row of YtigamomoegpefaaDoorRows.lean that lists a variable, with what it lists TIED to the program's text (the seventh form; the later family's looks); each row that meets fmt, with fmt's text TOLD by the authors' own Lean function (tested against real Go, not proved from fmt's source: count such statements apart). THE CARD IS WHAT COUNTS. Prove the row's statement (the work); the ties are given (YtigamomoegpefaaDoorTie.lean); close each card by the builder's one call (the guide's Derived/Test/ToyasCard.lean, 'card_holds'). Laid BY PROGRAM, IN A SANDBOX (cutbox-door.mjs). By AI agents, Wed Nov 11 2026. No macro, syntax, notation, axiom, sorry.
-/
import Derived.Test.YtigamomoegpefaaDoorRows
import GoSem.ClaimSeven
namespace Go.Proofs.YtigamomoegpefaaDoor
namespace Rows

/-- THE TIED CARD OF 'quoratelaw19.BatcherAges'. -/
def batcherAgesCard : Claim7 := { stood := { row := batcherAgesRow, standIns := [], harness := (true, "e48ccd38a7c1f20845a406d1467ea337d2185d52ee86647cf0dfd71860674125"), looks := true }, kinds := [], alts := [], laidByText := true, laidKinds := [.data], laidTests := true, laidLooks := .later }
def BatcherAgesCardSaid : Prop := Claim7.holds Tryd.pinned (.plain (OpenSpec.ofChange batcherAgesSpec)) batcherAgesCard

/-- THE TIED CARD OF 'quoratelaw19.BatcherPlays'. -/
def batcherPlaysCard : Claim7 := { stood := { row := batcherPlaysRow, standIns := [], harness := (true, "e48ccd38a7c1f20845a406d1467ea337d2185d52ee86647cf0dfd71860674125"), looks := true }, kinds := [], alts := [], laidByText := true, laidKinds := [.data], laidTests := true, laidLooks := .later }
def BatcherPlaysCardSaid : Prop := Claim7.holds Tryd.pinned (.plain (OpenSpec.ofChange batcherPlaysSpec)) batcherPlaysCard

/-- THE TIED CARD OF 'quoratelaw19.BatcherNil'. -/
def batcherNilCard : Claim7 := { stood := { row := batcherNilRow, standIns := [], harness := (true, "e48ccd38a7c1f20845a406d1467ea337d2185d52ee86647cf0dfd71860674125"), looks := true }, kinds := [], alts := [], laidByText := true, laidKinds := [.data], laidTests := true, laidLooks := .later }
def BatcherNilCardSaid : Prop := Claim7.holds Tryd.pinned (.plain (OpenSpec.ofChange batcherNilSpec)) batcherNilCard

/-- THE TIED CARD OF 'quoratelaw19.BatcherOrder'. -/
def batcherOrderCard : Claim7 := { stood := { row := batcherOrderRow, standIns := [], harness := (true, "e48ccd38a7c1f20845a406d1467ea337d2185d52ee86647cf0dfd71860674125"), looks := true }, kinds := [], alts := [], laidByText := true, laidKinds := [.data], laidTests := true, laidLooks := .later }
def BatcherOrderCardSaid : Prop := Claim7.holds Tryd.pinned (.plain (OpenSpec.ofChange batcherOrderSpec)) batcherOrderCard

/-- THE TIED CARD OF 'quoratelaw19.BatcherOwn'. -/
def batcherOwnCard : Claim7 := { stood := { row := batcherOwnRow, standIns := [], harness := (true, "e48ccd38a7c1f20845a406d1467ea337d2185d52ee86647cf0dfd71860674125"), looks := true }, kinds := [], alts := [], laidByText := true, laidKinds := [.data], laidTests := true, laidLooks := .later }
def BatcherOwnCardSaid : Prop := Claim7.holds Tryd.pinned (.plain (OpenSpec.ofChange batcherOwnSpec)) batcherOwnCard

/-- THE SECOND FORM's CARD OF 'quoratelaw19.BatcherAges'. -/
def batcherAgesUptoCard : Claim7 := { stood := { row := batcherAgesUptoRow, standIns := [], harness := (true, "e48ccd38a7c1f20845a406d1467ea337d2185d52ee86647cf0dfd71860674125"), looks := true }, kinds := [], alts := [], laidByText := true, laidKinds := [.data], laidTests := true, laidLooks := .later }
def BatcherAgesUptoCardSaid : Prop := Claim7.holds Tryd.pinned (.plain (OpenSpec.upto batcherAgesSpec)) batcherAgesUptoCard

/-- THE SECOND FORM's CARD OF 'quoratelaw19.BatcherPlays'. -/
def batcherPlaysUptoCard : Claim7 := { stood := { row := batcherPlaysUptoRow, standIns := [], harness := (true, "e48ccd38a7c1f20845a406d1467ea337d2185d52ee86647cf0dfd71860674125"), looks := true }, kinds := [], alts := [], laidByText := true, laidKinds := [.data], laidTests := true, laidLooks := .later }
def BatcherPlaysUptoCardSaid : Prop := Claim7.holds Tryd.pinned (.plain (OpenSpec.upto batcherPlaysSpec)) batcherPlaysUptoCard

/-- THE SECOND FORM's CARD OF 'quoratelaw19.BatcherNil'. -/
def batcherNilUptoCard : Claim7 := { stood := { row := batcherNilUptoRow, standIns := [], harness := (true, "e48ccd38a7c1f20845a406d1467ea337d2185d52ee86647cf0dfd71860674125"), looks := true }, kinds := [], alts := [], laidByText := true, laidKinds := [.data], laidTests := true, laidLooks := .later }
def BatcherNilUptoCardSaid : Prop := Claim7.holds Tryd.pinned (.plain (OpenSpec.upto batcherNilSpec)) batcherNilUptoCard

/-- THE SECOND FORM's CARD OF 'quoratelaw19.BatcherOrder'. -/
def batcherOrderUptoCard : Claim7 := { stood := { row := batcherOrderUptoRow, standIns := [], harness := (true, "e48ccd38a7c1f20845a406d1467ea337d2185d52ee86647cf0dfd71860674125"), looks := true }, kinds := [], alts := [], laidByText := true, laidKinds := [.data], laidTests := true, laidLooks := .later }
def BatcherOrderUptoCardSaid : Prop := Claim7.holds Tryd.pinned (.plain (OpenSpec.upto batcherOrderSpec)) batcherOrderUptoCard

/-- THE SECOND FORM's CARD OF 'quoratelaw19.BatcherOwn'. -/
def batcherOwnUptoCard : Claim7 := { stood := { row := batcherOwnUptoRow, standIns := [], harness := (true, "e48ccd38a7c1f20845a406d1467ea337d2185d52ee86647cf0dfd71860674125"), looks := true }, kinds := [], alts := [], laidByText := true, laidKinds := [.data], laidTests := true, laidLooks := .later }
def BatcherOwnUptoCardSaid : Prop := Claim7.holds Tryd.pinned (.plain (OpenSpec.upto batcherOwnSpec)) batcherOwnUptoCard
end Rows
end Go.Proofs.YtigamomoegpefaaDoor
