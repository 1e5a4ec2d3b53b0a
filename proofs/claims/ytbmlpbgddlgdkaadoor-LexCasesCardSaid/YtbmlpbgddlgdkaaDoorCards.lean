/-
  DERIVED. GIVEN WITH THE SEED: THE CARDS: each row of YtbmlpbgddlgdkaaDoorRows.lean that lists a variable, with what it lists TIED to the program's text (the seventh form; the later family's looks); each row that meets fmt, with fmt's text TOLD by the authors' own Lean function (tested against real Go, not proved from fmt's source: count such statements apart). THE CARD IS WHAT COUNTS. Prove the row's statement (the work); the ties are given (YtbmlpbgddlgdkaaDoorTie.lean); close each card by the builder's one call (the guide's Derived/Test/ToyasCard.lean, 'card_holds'). Laid BY PROGRAM, IN A SANDBOX (cutbox-door.mjs). By AI agents, Wed Nov 11 2026. No macro, syntax, notation, axiom, sorry.
-/
import Derived.Test.YtbmlpbgddlgdkaaDoorRows
import GoSem.ClaimSeven
namespace Go.Proofs.YtbmlpbgddlgdkaaDoor
namespace Rows

/-- THE TIED CARD OF 'quaysidelaw16.LexBack'. -/
def lexBackCard : Claim7 := { stood := { row := lexBackRow, standIns := [], harness := (true, "8bf6c9467ae8872e2939194ec0fba42bca9e3537e10af62ffd5640a29e602722"), looks := false }, kinds := [], alts := [], laidByText := true, laidKinds := [.data, .pinned], laidTests := true, laidLooks := .later }
def LexBackCardSaid : Prop := Claim7.holds Tryd.pinned (.plain (OpenSpec.ofChange lexBackSpec)) lexBackCard

/-- THE TIED CARD OF 'quaysidelaw16.LexBlanks'. -/
def lexBlanksCard : Claim7 := { stood := { row := lexBlanksRow, standIns := [], harness := (true, "8bf6c9467ae8872e2939194ec0fba42bca9e3537e10af62ffd5640a29e602722"), looks := false }, kinds := [], alts := [], laidByText := true, laidKinds := [.data, .pinned], laidTests := true, laidLooks := .later }
def LexBlanksCardSaid : Prop := Claim7.holds Tryd.pinned (.plain (OpenSpec.ofChange lexBlanksSpec)) lexBlanksCard

/-- THE TIED CARD OF 'quaysidelaw16.LexCases'. -/
def lexCasesCard : Claim7 := { stood := { row := lexCasesRow, standIns := [], harness := (true, "8bf6c9467ae8872e2939194ec0fba42bca9e3537e10af62ffd5640a29e602722"), looks := false }, kinds := [], alts := [], laidByText := true, laidKinds := [.data, .pinned], laidTests := true, laidLooks := .later }
def LexCasesCardSaid : Prop := Claim7.holds Tryd.pinned (.plain (OpenSpec.ofChange lexCasesSpec)) lexCasesCard

/-- THE SECOND FORM's CARD OF 'quaysidelaw16.LexBack'. -/
def lexBackUptoCard : Claim7 := { stood := { row := lexBackUptoRow, standIns := [], harness := (true, "8bf6c9467ae8872e2939194ec0fba42bca9e3537e10af62ffd5640a29e602722"), looks := false }, kinds := [], alts := [], laidByText := true, laidKinds := [.data, .pinned], laidTests := true, laidLooks := .later }
def LexBackUptoCardSaid : Prop := Claim7.holds Tryd.pinned (.plain (OpenSpec.upto lexBackSpec)) lexBackUptoCard

/-- THE SECOND FORM's CARD OF 'quaysidelaw16.LexBlanks'. -/
def lexBlanksUptoCard : Claim7 := { stood := { row := lexBlanksUptoRow, standIns := [], harness := (true, "8bf6c9467ae8872e2939194ec0fba42bca9e3537e10af62ffd5640a29e602722"), looks := false }, kinds := [], alts := [], laidByText := true, laidKinds := [.data, .pinned], laidTests := true, laidLooks := .later }
def LexBlanksUptoCardSaid : Prop := Claim7.holds Tryd.pinned (.plain (OpenSpec.upto lexBlanksSpec)) lexBlanksUptoCard

/-- THE SECOND FORM's CARD OF 'quaysidelaw16.LexCases'. -/
def lexCasesUptoCard : Claim7 := { stood := { row := lexCasesUptoRow, standIns := [], harness := (true, "8bf6c9467ae8872e2939194ec0fba42bca9e3537e10af62ffd5640a29e602722"), looks := false }, kinds := [], alts := [], laidByText := true, laidKinds := [.data, .pinned], laidTests := true, laidLooks := .later }
def LexCasesUptoCardSaid : Prop := Claim7.holds Tryd.pinned (.plain (OpenSpec.upto lexCasesSpec)) lexCasesUptoCard
end Rows
end Go.Proofs.YtbmlpbgddlgdkaaDoor
