/-
  DERIVED. GIVEN WITH THE SEED: THE CARDS: each row of YtjcinelcocmpnaaDoorRows.lean that lists a variable, with what it lists TIED to the program's text (the seventh form; the later family's looks); each row that meets fmt, with fmt's text TOLD by the authors' own Lean function (tested against real Go, not proved from fmt's source: count such statements apart). THE CARD IS WHAT COUNTS. Prove the row's statement (the work); the ties are given (YtjcinelcocmpnaaDoorTie.lean); close each card by the builder's one call (the guide's Derived/Test/ToyasCard.lean, 'card_holds'). Laid BY PROGRAM, IN A SANDBOX (cutbox-door.mjs). By AI agents, Wed Nov 11 2026. No macro, syntax, notation, axiom, sorry.
-/
import Derived.Test.YtjcinelcocmpnaaDoorRows
import GoSem.ClaimSeven
namespace Go.Proofs.YtjcinelcocmpnaaDoor
namespace Rows

/-- THE TIED CARD OF 'replicalaw05.MetaSeals'. -/
def metaSealsCard : Claim7 := { stood := { row := metaSealsRow, standIns := [], harness := (true, "b1cb0348593458a71a3125e0d6138a4b3e5186281573d395e719db857a60f577"), looks := false }, kinds := [], alts := [], laidByText := true, laidKinds := [.data, .data, .data, .data], laidTests := true, laidLooks := .later }
def MetaSealsCardSaid : Prop := Claim7.holds Tryd.pinned (.plain (OpenSpec.ofChange metaSealsSpec)) metaSealsCard

/-- THE TIED CARD OF 'replicalaw05.MetaUnseals'. -/
def metaUnsealsCard : Claim7 := { stood := { row := metaUnsealsRow, standIns := [], harness := (true, "b1cb0348593458a71a3125e0d6138a4b3e5186281573d395e719db857a60f577"), looks := false }, kinds := [], alts := [], laidByText := true, laidKinds := [.data, .data, .data, .data], laidTests := true, laidLooks := .later }
def MetaUnsealsCardSaid : Prop := Claim7.holds Tryd.pinned (.plain (OpenSpec.ofChange metaUnsealsSpec)) metaUnsealsCard

/-- THE TIED CARD OF 'replicalaw05.MetaChooses'. -/
def metaChoosesCard : Claim7 := { stood := { row := metaChoosesRow, standIns := [], harness := (true, "b1cb0348593458a71a3125e0d6138a4b3e5186281573d395e719db857a60f577"), looks := false }, kinds := [], alts := [], laidByText := true, laidKinds := [.data, .data, .data, .data], laidTests := true, laidLooks := .later }
def MetaChoosesCardSaid : Prop := Claim7.holds Tryd.pinned (.plain (OpenSpec.ofChange metaChoosesSpec)) metaChoosesCard

/-- THE TIED CARD OF 'replicalaw05.MetaRound'. -/
def metaRoundCard : Claim7 := { stood := { row := metaRoundRow, standIns := [], harness := (true, "b1cb0348593458a71a3125e0d6138a4b3e5186281573d395e719db857a60f577"), looks := false }, kinds := [], alts := [], laidByText := true, laidKinds := [.data, .data], laidTests := true, laidLooks := .later }
def MetaRoundCardSaid : Prop := Claim7.holds Tryd.pinned (.plain (OpenSpec.ofChange metaRoundSpec)) metaRoundCard

/-- THE TIED CARD OF 'replicalaw05.MetaSealed'. -/
def metaSealedCard : Claim7 := { stood := { row := metaSealedRow, standIns := [], harness := (true, "b1cb0348593458a71a3125e0d6138a4b3e5186281573d395e719db857a60f577"), looks := false }, kinds := [], alts := [], laidByText := true, laidKinds := [.data, .data], laidTests := true, laidLooks := .later }
def MetaSealedCardSaid : Prop := Claim7.holds Tryd.pinned (.plain (OpenSpec.ofChange metaSealedSpec)) metaSealedCard

/-- THE TIED CARD OF 'replicalaw05.MetaSpoilt'. -/
def metaSpoiltCard : Claim7 := { stood := { row := metaSpoiltRow, standIns := [], harness := (true, "b1cb0348593458a71a3125e0d6138a4b3e5186281573d395e719db857a60f577"), looks := false }, kinds := [], alts := [], laidByText := true, laidKinds := [.data, .data], laidTests := true, laidLooks := .later }
def MetaSpoiltCardSaid : Prop := Claim7.holds Tryd.pinned (.plain (OpenSpec.ofChange metaSpoiltSpec)) metaSpoiltCard

/-- THE TIED CARD OF 'replicalaw05.MetaNewer'. -/
def metaNewerCard : Claim7 := { stood := { row := metaNewerRow, standIns := [], harness := (true, "b1cb0348593458a71a3125e0d6138a4b3e5186281573d395e719db857a60f577"), looks := false }, kinds := [], alts := [], laidByText := true, laidKinds := [.data, .data], laidTests := true, laidLooks := .later }
def MetaNewerCardSaid : Prop := Claim7.holds Tryd.pinned (.plain (OpenSpec.ofChange metaNewerSpec)) metaNewerCard

/-- THE SECOND FORM's CARD OF 'replicalaw05.MetaSeals'. -/
def metaSealsUptoCard : Claim7 := { stood := { row := metaSealsUptoRow, standIns := [], harness := (true, "b1cb0348593458a71a3125e0d6138a4b3e5186281573d395e719db857a60f577"), looks := false }, kinds := [], alts := [], laidByText := true, laidKinds := [.data, .data, .data, .data], laidTests := true, laidLooks := .later }
def MetaSealsUptoCardSaid : Prop := Claim7.holds Tryd.pinned (.plain (OpenSpec.upto metaSealsSpec)) metaSealsUptoCard

/-- THE SECOND FORM's CARD OF 'replicalaw05.MetaUnseals'. -/
def metaUnsealsUptoCard : Claim7 := { stood := { row := metaUnsealsUptoRow, standIns := [], harness := (true, "b1cb0348593458a71a3125e0d6138a4b3e5186281573d395e719db857a60f577"), looks := false }, kinds := [], alts := [], laidByText := true, laidKinds := [.data, .data, .data, .data], laidTests := true, laidLooks := .later }
def MetaUnsealsUptoCardSaid : Prop := Claim7.holds Tryd.pinned (.plain (OpenSpec.upto metaUnsealsSpec)) metaUnsealsUptoCard

/-- THE SECOND FORM's CARD OF 'replicalaw05.MetaChooses'. -/
def metaChoosesUptoCard : Claim7 := { stood := { row := metaChoosesUptoRow, standIns := [], harness := (true, "b1cb0348593458a71a3125e0d6138a4b3e5186281573d395e719db857a60f577"), looks := false }, kinds := [], alts := [], laidByText := true, laidKinds := [.data, .data, .data, .data], laidTests := true, laidLooks := .later }
def MetaChoosesUptoCardSaid : Prop := Claim7.holds Tryd.pinned (.plain (OpenSpec.upto metaChoosesSpec)) metaChoosesUptoCard

/-- THE SECOND FORM's CARD OF 'replicalaw05.MetaRound'. -/
def metaRoundUptoCard : Claim7 := { stood := { row := metaRoundUptoRow, standIns := [], harness := (true, "b1cb0348593458a71a3125e0d6138a4b3e5186281573d395e719db857a60f577"), looks := false }, kinds := [], alts := [], laidByText := true, laidKinds := [.data, .data], laidTests := true, laidLooks := .later }
def MetaRoundUptoCardSaid : Prop := Claim7.holds Tryd.pinned (.plain (OpenSpec.upto metaRoundSpec)) metaRoundUptoCard

/-- THE SECOND FORM's CARD OF 'replicalaw05.MetaSealed'. -/
def metaSealedUptoCard : Claim7 := { stood := { row := metaSealedUptoRow, standIns := [], harness := (true, "b1cb0348593458a71a3125e0d6138a4b3e5186281573d395e719db857a60f577"), looks := false }, kinds := [], alts := [], laidByText := true, laidKinds := [.data, .data], laidTests := true, laidLooks := .later }
def MetaSealedUptoCardSaid : Prop := Claim7.holds Tryd.pinned (.plain (OpenSpec.upto metaSealedSpec)) metaSealedUptoCard

/-- THE SECOND FORM's CARD OF 'replicalaw05.MetaSpoilt'. -/
def metaSpoiltUptoCard : Claim7 := { stood := { row := metaSpoiltUptoRow, standIns := [], harness := (true, "b1cb0348593458a71a3125e0d6138a4b3e5186281573d395e719db857a60f577"), looks := false }, kinds := [], alts := [], laidByText := true, laidKinds := [.data, .data], laidTests := true, laidLooks := .later }
def MetaSpoiltUptoCardSaid : Prop := Claim7.holds Tryd.pinned (.plain (OpenSpec.upto metaSpoiltSpec)) metaSpoiltUptoCard

/-- THE SECOND FORM's CARD OF 'replicalaw05.MetaNewer'. -/
def metaNewerUptoCard : Claim7 := { stood := { row := metaNewerUptoRow, standIns := [], harness := (true, "b1cb0348593458a71a3125e0d6138a4b3e5186281573d395e719db857a60f577"), looks := false }, kinds := [], alts := [], laidByText := true, laidKinds := [.data, .data], laidTests := true, laidLooks := .later }
def MetaNewerUptoCardSaid : Prop := Claim7.holds Tryd.pinned (.plain (OpenSpec.upto metaNewerSpec)) metaNewerUptoCard
end Rows
end Go.Proofs.YtjcinelcocmpnaaDoor
