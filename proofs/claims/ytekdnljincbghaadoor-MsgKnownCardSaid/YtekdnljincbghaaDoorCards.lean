/-
  DERIVED. GIVEN WITH THE SEED: THE CARDS: each row of YtekdnljincbghaaDoorRows.lean that lists a variable, with what it lists TIED to the program's text (the seventh form; the later family's looks); each row that meets fmt, with fmt's text TOLD by the authors' own Lean function (tested against real Go, not proved from fmt's source: count such statements apart). THE CARD IS WHAT COUNTS. Prove the row's statement (the work); the ties are given (YtekdnljincbghaaDoorTie.lean); close each card by the builder's one call (the guide's Derived/Test/ToyasCard.lean, 'card_holds'). Laid BY PROGRAM, IN A SANDBOX (cutbox-door.mjs). By AI agents, Wed Nov 11 2026. No macro, syntax, notation, axiom, sorry.
-/
import Derived.Test.YtekdnljincbghaaDoorRows
import GoSem.ClaimSeven
namespace Go.Proofs.YtekdnljincbghaaDoor
namespace Rows

/-- THE TIED CARD OF 'quoratelaw17.MsgPuts'. -/
def msgPutsCard : Claim7 := { stood := { row := msgPutsRow, standIns := [], harness := (true, "7912b042ccd3b0f2666a058e97004f4ea3feaea3ff4bb9b4ff308025b18c8fe6"), looks := false }, kinds := [], alts := [], laidByText := true, laidKinds := [.data, .data], laidTests := true, laidLooks := .later }
def MsgPutsCardSaid : Prop := Claim7.holds Tryd.pinned (.plain (OpenSpec.ofChange msgPutsSpec)) msgPutsCard

/-- THE TIED CARD OF 'quoratelaw17.MsgTakes'. -/
def msgTakesCard : Claim7 := { stood := { row := msgTakesRow, standIns := [], harness := (true, "7912b042ccd3b0f2666a058e97004f4ea3feaea3ff4bb9b4ff308025b18c8fe6"), looks := false }, kinds := [], alts := [], laidByText := true, laidKinds := [.data, .data], laidTests := true, laidLooks := .later }
def MsgTakesCardSaid : Prop := Claim7.holds Tryd.pinned (.plain (OpenSpec.ofChange msgTakesSpec)) msgTakesCard

/-- THE TIED CARD OF 'quoratelaw17.MsgKnown'. -/
def msgKnownCard : Claim7 := { stood := { row := msgKnownRow, standIns := [], harness := (true, "7912b042ccd3b0f2666a058e97004f4ea3feaea3ff4bb9b4ff308025b18c8fe6"), looks := false }, kinds := [], alts := [], laidByText := true, laidKinds := [.data, .data], laidTests := true, laidLooks := .later }
def MsgKnownCardSaid : Prop := Claim7.holds Tryd.pinned (.plain (OpenSpec.ofChange msgKnownSpec)) msgKnownCard

/-- THE TIED CARD OF 'quoratelaw17.MsgSame'. -/
def msgSameCard : Claim7 := { stood := { row := msgSameRow, standIns := [], harness := (true, "7912b042ccd3b0f2666a058e97004f4ea3feaea3ff4bb9b4ff308025b18c8fe6"), looks := false }, kinds := [], alts := [], laidByText := true, laidKinds := [.data, .data], laidTests := true, laidLooks := .later }
def MsgSameCardSaid : Prop := Claim7.holds Tryd.pinned (.plain (OpenSpec.ofChange msgSameSpec)) msgSameCard

/-- THE TIED CARD OF 'quoratelaw17.MsgBack'. -/
def msgBackCard : Claim7 := { stood := { row := msgBackRow, standIns := [], harness := (true, "7912b042ccd3b0f2666a058e97004f4ea3feaea3ff4bb9b4ff308025b18c8fe6"), looks := false }, kinds := [], alts := [], laidByText := true, laidKinds := [.data, .data], laidTests := true, laidLooks := .later }
def MsgBackCardSaid : Prop := Claim7.holds Tryd.pinned (.plain (OpenSpec.ofChange msgBackSpec)) msgBackCard

/-- THE TIED CARD OF 'quoratelaw17.MsgBits'. -/
def msgBitsCard : Claim7 := { stood := { row := msgBitsRow, standIns := [], harness := (true, "7912b042ccd3b0f2666a058e97004f4ea3feaea3ff4bb9b4ff308025b18c8fe6"), looks := false }, kinds := [], alts := [], laidByText := true, laidKinds := [.data, .data], laidTests := true, laidLooks := .later }
def MsgBitsCardSaid : Prop := Claim7.holds Tryd.pinned (.plain (OpenSpec.ofChange msgBitsSpec)) msgBitsCard

/-- THE TIED CARD OF 'quoratelaw17.MsgOwn'. -/
def msgOwnCard : Claim7 := { stood := { row := msgOwnRow, standIns := [], harness := (true, "7912b042ccd3b0f2666a058e97004f4ea3feaea3ff4bb9b4ff308025b18c8fe6"), looks := false }, kinds := [], alts := [], laidByText := true, laidKinds := [.data, .data], laidTests := true, laidLooks := .later }
def MsgOwnCardSaid : Prop := Claim7.holds Tryd.pinned (.plain (OpenSpec.ofChange msgOwnSpec)) msgOwnCard

/-- THE SECOND FORM's CARD OF 'quoratelaw17.MsgPuts'. -/
def msgPutsUptoCard : Claim7 := { stood := { row := msgPutsUptoRow, standIns := [], harness := (true, "7912b042ccd3b0f2666a058e97004f4ea3feaea3ff4bb9b4ff308025b18c8fe6"), looks := false }, kinds := [], alts := [], laidByText := true, laidKinds := [.data, .data], laidTests := true, laidLooks := .later }
def MsgPutsUptoCardSaid : Prop := Claim7.holds Tryd.pinned (.plain (OpenSpec.upto msgPutsSpec)) msgPutsUptoCard

/-- THE SECOND FORM's CARD OF 'quoratelaw17.MsgTakes'. -/
def msgTakesUptoCard : Claim7 := { stood := { row := msgTakesUptoRow, standIns := [], harness := (true, "7912b042ccd3b0f2666a058e97004f4ea3feaea3ff4bb9b4ff308025b18c8fe6"), looks := false }, kinds := [], alts := [], laidByText := true, laidKinds := [.data, .data], laidTests := true, laidLooks := .later }
def MsgTakesUptoCardSaid : Prop := Claim7.holds Tryd.pinned (.plain (OpenSpec.upto msgTakesSpec)) msgTakesUptoCard

/-- THE SECOND FORM's CARD OF 'quoratelaw17.MsgKnown'. -/
def msgKnownUptoCard : Claim7 := { stood := { row := msgKnownUptoRow, standIns := [], harness := (true, "7912b042ccd3b0f2666a058e97004f4ea3feaea3ff4bb9b4ff308025b18c8fe6"), looks := false }, kinds := [], alts := [], laidByText := true, laidKinds := [.data, .data], laidTests := true, laidLooks := .later }
def MsgKnownUptoCardSaid : Prop := Claim7.holds Tryd.pinned (.plain (OpenSpec.upto msgKnownSpec)) msgKnownUptoCard

/-- THE SECOND FORM's CARD OF 'quoratelaw17.MsgSame'. -/
def msgSameUptoCard : Claim7 := { stood := { row := msgSameUptoRow, standIns := [], harness := (true, "7912b042ccd3b0f2666a058e97004f4ea3feaea3ff4bb9b4ff308025b18c8fe6"), looks := false }, kinds := [], alts := [], laidByText := true, laidKinds := [.data, .data], laidTests := true, laidLooks := .later }
def MsgSameUptoCardSaid : Prop := Claim7.holds Tryd.pinned (.plain (OpenSpec.upto msgSameSpec)) msgSameUptoCard

/-- THE SECOND FORM's CARD OF 'quoratelaw17.MsgBack'. -/
def msgBackUptoCard : Claim7 := { stood := { row := msgBackUptoRow, standIns := [], harness := (true, "7912b042ccd3b0f2666a058e97004f4ea3feaea3ff4bb9b4ff308025b18c8fe6"), looks := false }, kinds := [], alts := [], laidByText := true, laidKinds := [.data, .data], laidTests := true, laidLooks := .later }
def MsgBackUptoCardSaid : Prop := Claim7.holds Tryd.pinned (.plain (OpenSpec.upto msgBackSpec)) msgBackUptoCard

/-- THE SECOND FORM's CARD OF 'quoratelaw17.MsgBits'. -/
def msgBitsUptoCard : Claim7 := { stood := { row := msgBitsUptoRow, standIns := [], harness := (true, "7912b042ccd3b0f2666a058e97004f4ea3feaea3ff4bb9b4ff308025b18c8fe6"), looks := false }, kinds := [], alts := [], laidByText := true, laidKinds := [.data, .data], laidTests := true, laidLooks := .later }
def MsgBitsUptoCardSaid : Prop := Claim7.holds Tryd.pinned (.plain (OpenSpec.upto msgBitsSpec)) msgBitsUptoCard

/-- THE SECOND FORM's CARD OF 'quoratelaw17.MsgOwn'. -/
def msgOwnUptoCard : Claim7 := { stood := { row := msgOwnUptoRow, standIns := [], harness := (true, "7912b042ccd3b0f2666a058e97004f4ea3feaea3ff4bb9b4ff308025b18c8fe6"), looks := false }, kinds := [], alts := [], laidByText := true, laidKinds := [.data, .data], laidTests := true, laidLooks := .later }
def MsgOwnUptoCardSaid : Prop := Claim7.holds Tryd.pinned (.plain (OpenSpec.upto msgOwnSpec)) msgOwnUptoCard
end Rows
end Go.Proofs.YtekdnljincbghaaDoor
