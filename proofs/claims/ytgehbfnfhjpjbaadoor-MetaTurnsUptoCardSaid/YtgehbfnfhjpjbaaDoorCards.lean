/-
  DERIVED. GIVEN WITH THE SEED: THE CARDS: each row of YtgehbfnfhjpjbaaDoorRows.lean that lists a variable, with what it lists TIED to the program's text (the seventh form; the later family's looks); each row that meets fmt, with fmt's text TOLD by the authors' own Lean function (tested against real Go, not proved from fmt's source: count such statements apart). THE CARD IS WHAT COUNTS. Prove the row's statement (the work); the ties are given (YtgehbfnfhjpjbaaDoorTie.lean); close each card by the builder's one call (the guide's Derived/Test/ToyasCard.lean, 'card_holds'). Laid BY PROGRAM, IN A SANDBOX (cutbox-door.mjs). By AI agents, Wed Nov 11 2026. No macro, syntax, notation, axiom, sorry.
-/
import Derived.Test.YtgehbfnfhjpjbaaDoorRows
import GoSem.ClaimSeven
namespace Go.Proofs.YtgehbfnfhjpjbaaDoor
namespace Rows

/-- THE TIED CARD OF 'replicalaw05.MetaTurns'. -/
def metaTurnsCard : Claim7 := { stood := { row := metaTurnsRow, standIns := [], harness := (true, "4965498ff2dae335e59179eadf700a6ad5de3584b3aaa0a0964f726dc7b56901"), looks := false }, kinds := [], alts := [], laidByText := true, laidKinds := [.data, .data], laidTests := true, laidLooks := .later }
def MetaTurnsCardSaid : Prop := Claim7.holds Tryd.pinned (.plain (OpenSpec.ofChange metaTurnsSpec)) metaTurnsCard

/-- THE SECOND FORM's CARD OF 'replicalaw05.MetaTurns'. -/
def metaTurnsUptoCard : Claim7 := { stood := { row := metaTurnsUptoRow, standIns := [], harness := (true, "4965498ff2dae335e59179eadf700a6ad5de3584b3aaa0a0964f726dc7b56901"), looks := false }, kinds := [], alts := [], laidByText := true, laidKinds := [.data, .data], laidTests := true, laidLooks := .later }
def MetaTurnsUptoCardSaid : Prop := Claim7.holds Tryd.pinned (.plain (OpenSpec.upto metaTurnsSpec)) metaTurnsUptoCard
end Rows
end Go.Proofs.YtgehbfnfhjpjbaaDoor
