/-
  DERIVED. GIVEN WITH THE SEED: THE CARDS: each row of YtbfebfeliddpnaaDoorRows.lean that lists a variable, with what it lists TIED to the program's text (the seventh form; the later family's looks); each row that meets fmt, with fmt's text TOLD by the authors' own Lean function (tested against real Go, not proved from fmt's source: count such statements apart). THE CARD IS WHAT COUNTS. Prove the row's statement (the work); the ties are given (YtbfebfeliddpnaaDoorTie.lean); close each card by the builder's one call (the guide's Derived/Test/ToyasCard.lean, 'card_holds'). Laid BY PROGRAM, IN A SANDBOX (cutbox-door.mjs). By AI agents, Wed Nov 11 2026. No macro, syntax, notation, axiom, sorry.
-/
import Derived.Test.YtbfebfeliddpnaaDoorRows
import GoSem.ClaimSeven
namespace Go.Proofs.YtbfebfeliddpnaaDoor
namespace Rows

/-- THE TIED CARD OF 'replicalaw19.DumpParses'. -/
def dumpParsesCard : Claim7 := { stood := { row := dumpParsesRow, standIns := [], harness := (true, "78db3268e9647d67deca15f521abc9feed283d26283850b74baa5c752aac8637"), looks := true }, kinds := [], alts := [], laidByText := true, laidKinds := [.data], laidTests := true, laidLooks := .later }
def DumpParsesCardSaid : Prop := Claim7.holds Tryd.pinned (.plain (OpenSpec.ofChange dumpParsesSpec)) dumpParsesCard

/-- THE TIED CARD OF 'replicalaw19.DumpPrints'. -/
def dumpPrintsCard : Claim7 := { stood := { row := dumpPrintsRow, standIns := [], harness := (true, "78db3268e9647d67deca15f521abc9feed283d26283850b74baa5c752aac8637"), looks := true }, kinds := [], alts := [], laidByText := true, laidKinds := [.data, .data, .data, .data, .data, .data, .data, .data], laidTests := true, laidLooks := .later }
def DumpPrintsCardSaid : Prop := Claim7.holds Tryd.pinned (.plain (OpenSpec.ofChange dumpPrintsSpec)) dumpPrintsCard

/-- THE TIED CARD OF 'replicalaw19.DumpBack'. -/
def dumpBackCard : Claim7 := { stood := { row := dumpBackRow, standIns := [], harness := (true, "78db3268e9647d67deca15f521abc9feed283d26283850b74baa5c752aac8637"), looks := true }, kinds := [], alts := [], laidByText := true, laidKinds := [.data, .data, .data, .data, .data, .data], laidTests := true, laidLooks := .later }
def DumpBackCardSaid : Prop := Claim7.holds Tryd.pinned (.plain (OpenSpec.ofChange dumpBackSpec)) dumpBackCard

/-- THE TIED CARD OF 'replicalaw19.DumpRead'. -/
def dumpReadCard : Claim7 := { stood := { row := dumpReadRow, standIns := [], harness := (true, "78db3268e9647d67deca15f521abc9feed283d26283850b74baa5c752aac8637"), looks := true }, kinds := [], alts := [], laidByText := true, laidKinds := [.data, .data, .data, .data, .data, .data], laidTests := true, laidLooks := .later }
def DumpReadCardSaid : Prop := Claim7.holds Tryd.pinned (.plain (OpenSpec.ofChange dumpReadSpec)) dumpReadCard

/-- THE TIED CARD OF 'replicalaw19.DumpFirst'. -/
def dumpFirstCard : Claim7 := { stood := { row := dumpFirstRow, standIns := [], harness := (true, "78db3268e9647d67deca15f521abc9feed283d26283850b74baa5c752aac8637"), looks := true }, kinds := [], alts := [], laidByText := true, laidKinds := [.data, .data, .data, .data, .data, .data], laidTests := true, laidLooks := .later }
def DumpFirstCardSaid : Prop := Claim7.holds Tryd.pinned (.plain (OpenSpec.ofChange dumpFirstSpec)) dumpFirstCard

/-- THE SECOND FORM's CARD OF 'replicalaw19.DumpParses'. -/
def dumpParsesUptoCard : Claim7 := { stood := { row := dumpParsesUptoRow, standIns := [], harness := (true, "78db3268e9647d67deca15f521abc9feed283d26283850b74baa5c752aac8637"), looks := true }, kinds := [], alts := [], laidByText := true, laidKinds := [.data], laidTests := true, laidLooks := .later }
def DumpParsesUptoCardSaid : Prop := Claim7.holds Tryd.pinned (.plain (OpenSpec.upto dumpParsesSpec)) dumpParsesUptoCard

/-- THE SECOND FORM's CARD OF 'replicalaw19.DumpPrints'. -/
def dumpPrintsUptoCard : Claim7 := { stood := { row := dumpPrintsUptoRow, standIns := [], harness := (true, "78db3268e9647d67deca15f521abc9feed283d26283850b74baa5c752aac8637"), looks := true }, kinds := [], alts := [], laidByText := true, laidKinds := [.data, .data, .data, .data, .data, .data, .data, .data], laidTests := true, laidLooks := .later }
def DumpPrintsUptoCardSaid : Prop := Claim7.holds Tryd.pinned (.plain (OpenSpec.upto dumpPrintsSpec)) dumpPrintsUptoCard

/-- THE SECOND FORM's CARD OF 'replicalaw19.DumpBack'. -/
def dumpBackUptoCard : Claim7 := { stood := { row := dumpBackUptoRow, standIns := [], harness := (true, "78db3268e9647d67deca15f521abc9feed283d26283850b74baa5c752aac8637"), looks := true }, kinds := [], alts := [], laidByText := true, laidKinds := [.data, .data, .data, .data, .data, .data], laidTests := true, laidLooks := .later }
def DumpBackUptoCardSaid : Prop := Claim7.holds Tryd.pinned (.plain (OpenSpec.upto dumpBackSpec)) dumpBackUptoCard

/-- THE SECOND FORM's CARD OF 'replicalaw19.DumpRead'. -/
def dumpReadUptoCard : Claim7 := { stood := { row := dumpReadUptoRow, standIns := [], harness := (true, "78db3268e9647d67deca15f521abc9feed283d26283850b74baa5c752aac8637"), looks := true }, kinds := [], alts := [], laidByText := true, laidKinds := [.data, .data, .data, .data, .data, .data], laidTests := true, laidLooks := .later }
def DumpReadUptoCardSaid : Prop := Claim7.holds Tryd.pinned (.plain (OpenSpec.upto dumpReadSpec)) dumpReadUptoCard

/-- THE SECOND FORM's CARD OF 'replicalaw19.DumpFirst'. -/
def dumpFirstUptoCard : Claim7 := { stood := { row := dumpFirstUptoRow, standIns := [], harness := (true, "78db3268e9647d67deca15f521abc9feed283d26283850b74baa5c752aac8637"), looks := true }, kinds := [], alts := [], laidByText := true, laidKinds := [.data, .data, .data, .data, .data, .data], laidTests := true, laidLooks := .later }
def DumpFirstUptoCardSaid : Prop := Claim7.holds Tryd.pinned (.plain (OpenSpec.upto dumpFirstSpec)) dumpFirstUptoCard
end Rows
end Go.Proofs.YtbfebfeliddpnaaDoor
