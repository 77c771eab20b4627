/-
  DERIVED. GIVEN WITH THE SEED: THE CARDS: each row of YthbkklnahhdgcaaDoorRows.lean that lists a variable, with what it lists TIED to the program's text (the seventh form; the later family's looks); each row that meets fmt, with fmt's text TOLD by the authors' own Lean function (tested against real Go, not proved from fmt's source: count such statements apart). THE CARD IS WHAT COUNTS. Prove the row's statement (the work); the ties are given (YthbkklnahhdgcaaDoorTie.lean); close each card by the builder's one call (the guide's Derived/Test/ToyasCard.lean, 'card_holds'). Laid BY PROGRAM, IN A SANDBOX (cutbox-door.mjs). By AI agents, Wed Nov 11 2026. No macro, syntax, notation, axiom, sorry.
-/
import Derived.Test.YthbkklnahhdgcaaDoorRows
import GoSem.ClaimSeven
namespace Go.Proofs.YthbkklnahhdgcaaDoor
namespace Rows

/-- THE TIED CARD OF 'rewindlaw.HeapErrors'. -/
def heapErrorsCard : Claim7 := { stood := { row := heapErrorsRow, standIns := [], harness := (true, "9fd107eb1b14a45c9c299323ae2a299ec3f82df37e4d10763b638fad94b26bbd"), looks := true }, kinds := [], alts := [], laidByText := true, laidKinds := [.handle], laidTests := true, laidLooks := .later }
def HeapErrorsCardSaid : Prop := Claim7.holds Tryd.pinned (.plain (OpenSpec.ofChange heapErrorsSpec)) heapErrorsCard

/-- THE TIED CARD OF 'rewindlaw.CodeChecks'. -/
def codeChecksCard : Claim7 := { stood := { row := codeChecksRow, standIns := [], harness := (true, "9fd107eb1b14a45c9c299323ae2a299ec3f82df37e4d10763b638fad94b26bbd"), looks := true }, kinds := [], alts := [], laidByText := true, laidKinds := [.handle, .data], laidTests := true, laidLooks := .later }
def CodeChecksCardSaid : Prop := Claim7.holds Tryd.pinned (.plain (OpenSpec.ofChange codeChecksSpec)) codeChecksCard

/-- THE TIED CARD OF 'rewindlaw.VmNews'. -/
def vmNewsCard : Claim7 := { stood := { row := vmNewsRow, standIns := [], harness := (true, "9fd107eb1b14a45c9c299323ae2a299ec3f82df37e4d10763b638fad94b26bbd"), looks := true }, kinds := [], alts := [], laidByText := true, laidKinds := [.handle, .data], laidTests := true, laidLooks := .later }
def VmNewsCardSaid : Prop := Claim7.holds Tryd.pinned (.plain (OpenSpec.ofChange vmNewsSpec)) vmNewsCard

/-- THE TIED CARD OF 'rewindlaw.CodeEncodes'. -/
def codeEncodesCard : Claim7 := { stood := { row := codeEncodesRow, standIns := [], harness := (true, "9fd107eb1b14a45c9c299323ae2a299ec3f82df37e4d10763b638fad94b26bbd"), looks := true }, kinds := [], alts := [], laidByText := true, laidKinds := [.handle, .data], laidTests := true, laidLooks := .later }
def CodeEncodesCardSaid : Prop := Claim7.holds Tryd.pinned (.plain (OpenSpec.ofChange codeEncodesSpec)) codeEncodesCard

/-- THE TIED CARD OF 'rewindlaw.CodeDecodes'. -/
def codeDecodesCard : Claim7 := { stood := { row := codeDecodesRow, standIns := [], harness := (true, "9fd107eb1b14a45c9c299323ae2a299ec3f82df37e4d10763b638fad94b26bbd"), looks := true }, kinds := [], alts := [], laidByText := true, laidKinds := [.handle, .data], laidTests := true, laidLooks := .later }
def CodeDecodesCardSaid : Prop := Claim7.holds Tryd.pinned (.plain (OpenSpec.ofChange codeDecodesSpec)) codeDecodesCard

/-- THE TIED CARD OF 'rewindlaw.HeapPlays'. -/
def heapPlaysCard : Claim7 := { stood := { row := heapPlaysRow, standIns := [], harness := (true, "9fd107eb1b14a45c9c299323ae2a299ec3f82df37e4d10763b638fad94b26bbd"), looks := true }, kinds := [], alts := [], laidByText := true, laidKinds := [.handle], laidTests := true, laidLooks := .later }
def HeapPlaysCardSaid : Prop := Claim7.holds Tryd.pinned (.plain (OpenSpec.ofChange heapPlaysSpec)) heapPlaysCard

/-- THE TIED CARD OF 'rewindlaw.VmHostile'. -/
def vmHostileCard : Claim7 := { stood := { row := vmHostileRow, standIns := [], harness := (true, "9fd107eb1b14a45c9c299323ae2a299ec3f82df37e4d10763b638fad94b26bbd"), looks := true }, kinds := [], alts := [], laidByText := true, laidKinds := [.data, .data, .data, .data], laidTests := true, laidLooks := .later }
def VmHostileCardSaid : Prop := Claim7.holds Tryd.pinned (.plain (OpenSpec.ofChange vmHostileSpec)) vmHostileCard

/-- THE SECOND FORM's CARD OF 'rewindlaw.HeapErrors'. -/
def heapErrorsUptoCard : Claim7 := { stood := { row := heapErrorsUptoRow, standIns := [], harness := (true, "9fd107eb1b14a45c9c299323ae2a299ec3f82df37e4d10763b638fad94b26bbd"), looks := true }, kinds := [], alts := [], laidByText := true, laidKinds := [.handle], laidTests := true, laidLooks := .later }
def HeapErrorsUptoCardSaid : Prop := Claim7.holds Tryd.pinned (.plain (OpenSpec.upto heapErrorsSpec)) heapErrorsUptoCard

/-- THE SECOND FORM's CARD OF 'rewindlaw.CodeChecks'. -/
def codeChecksUptoCard : Claim7 := { stood := { row := codeChecksUptoRow, standIns := [], harness := (true, "9fd107eb1b14a45c9c299323ae2a299ec3f82df37e4d10763b638fad94b26bbd"), looks := true }, kinds := [], alts := [], laidByText := true, laidKinds := [.handle, .data], laidTests := true, laidLooks := .later }
def CodeChecksUptoCardSaid : Prop := Claim7.holds Tryd.pinned (.plain (OpenSpec.upto codeChecksSpec)) codeChecksUptoCard

/-- THE SECOND FORM's CARD OF 'rewindlaw.VmNews'. -/
def vmNewsUptoCard : Claim7 := { stood := { row := vmNewsUptoRow, standIns := [], harness := (true, "9fd107eb1b14a45c9c299323ae2a299ec3f82df37e4d10763b638fad94b26bbd"), looks := true }, kinds := [], alts := [], laidByText := true, laidKinds := [.handle, .data], laidTests := true, laidLooks := .later }
def VmNewsUptoCardSaid : Prop := Claim7.holds Tryd.pinned (.plain (OpenSpec.upto vmNewsSpec)) vmNewsUptoCard

/-- THE SECOND FORM's CARD OF 'rewindlaw.CodeEncodes'. -/
def codeEncodesUptoCard : Claim7 := { stood := { row := codeEncodesUptoRow, standIns := [], harness := (true, "9fd107eb1b14a45c9c299323ae2a299ec3f82df37e4d10763b638fad94b26bbd"), looks := true }, kinds := [], alts := [], laidByText := true, laidKinds := [.handle, .data], laidTests := true, laidLooks := .later }
def CodeEncodesUptoCardSaid : Prop := Claim7.holds Tryd.pinned (.plain (OpenSpec.upto codeEncodesSpec)) codeEncodesUptoCard

/-- THE SECOND FORM's CARD OF 'rewindlaw.CodeDecodes'. -/
def codeDecodesUptoCard : Claim7 := { stood := { row := codeDecodesUptoRow, standIns := [], harness := (true, "9fd107eb1b14a45c9c299323ae2a299ec3f82df37e4d10763b638fad94b26bbd"), looks := true }, kinds := [], alts := [], laidByText := true, laidKinds := [.handle, .data], laidTests := true, laidLooks := .later }
def CodeDecodesUptoCardSaid : Prop := Claim7.holds Tryd.pinned (.plain (OpenSpec.upto codeDecodesSpec)) codeDecodesUptoCard

/-- THE SECOND FORM's CARD OF 'rewindlaw.HeapPlays'. -/
def heapPlaysUptoCard : Claim7 := { stood := { row := heapPlaysUptoRow, standIns := [], harness := (true, "9fd107eb1b14a45c9c299323ae2a299ec3f82df37e4d10763b638fad94b26bbd"), looks := true }, kinds := [], alts := [], laidByText := true, laidKinds := [.handle], laidTests := true, laidLooks := .later }
def HeapPlaysUptoCardSaid : Prop := Claim7.holds Tryd.pinned (.plain (OpenSpec.upto heapPlaysSpec)) heapPlaysUptoCard

/-- THE SECOND FORM's CARD OF 'rewindlaw.VmHostile'. -/
def vmHostileUptoCard : Claim7 := { stood := { row := vmHostileUptoRow, standIns := [], harness := (true, "9fd107eb1b14a45c9c299323ae2a299ec3f82df37e4d10763b638fad94b26bbd"), looks := true }, kinds := [], alts := [], laidByText := true, laidKinds := [.data, .data, .data, .data], laidTests := true, laidLooks := .later }
def VmHostileUptoCardSaid : Prop := Claim7.holds Tryd.pinned (.plain (OpenSpec.upto vmHostileSpec)) vmHostileUptoCard
end Rows
end Go.Proofs.YthbkklnahhdgcaaDoor
