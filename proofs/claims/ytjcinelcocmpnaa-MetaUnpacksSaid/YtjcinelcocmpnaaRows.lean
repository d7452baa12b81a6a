/-
  No cell of these rows narrows 'for every input' (looked for: loops, veiled, ifaces, maps, wideKeys, modest, calm, conditions, laid).
  DERIVED. THE GIVEN ROWS OF THIS SEAT. 5 by the template 'for every input the law returns true; each argument reads behind the call as it read before'; 0 by the template 'total and deterministic' (their statements: YtjcinelcocmpnaaTotals.lean).
  GIVEN WITH THE SEED: the statements are not yours to turn. If you find one false, say at which input.
  Laid BY PROGRAM, IN A SANDBOX (cutbox-rows.mjs): the forced cells as the released guide's own fill.sh prints them over the translation 1f3bb81ba3498362… (all of the seat's roots in one cut). By AI agents, Wed Nov 11 2026. No macro, syntax, notation, axiom, sorry.
-/
import Derived.Test.YtjcinelcocmpnaaChecked
import GoSem.Claim
import GoSem.ClaimJoined
import GoSem.ClaimMapViews
import Derived.JoinedTies
import Derived.KernelRfl
namespace Go.Proofs.Ytjcinelcocmpnaa
/- THE CELL 'sum', in the pinned program and in every row, IS THE sha256 OF THE DUMP (.gsa) THAT YtjcinelcocmpnaaProg.lean LOADS. Nothing in Lean hashes anything: it is a label: what it is worth is what the hold of that sum in a sandbox is worth. -/
noncomputable def Try.pinned : Pinned := { name := "ytjcinelcocmpnaa", sum := "1f3bb81ba3498362e043f30d800eed5b95f498af0878e52abf55de763248e0b1", checked := Try.checked }
namespace Rows
def none {H : Type} : Left H := { results := [], args := [] }

/-- 'replicalaw05.MetaAreas': WHATEVER THE INPUT: true; the input reads as it did. -/
def metaAreasSpec : ChangeSpec := { name := "metaAreas", fn := fun _ => fun
  | [d1, d2] => { results := [.lit (.bool true)], args := [d1, d2] }
  | _ => none }
def metaAreasRow : OpenClaim := { program := "ytjcinelcocmpnaa", sum := "1f3bb81ba3498362e043f30d800eed5b95f498af0878e52abf55de763248e0b1", func := "replica/replicalaw05.MetaAreas", spec := "metaAreas", apart := false }
def MetaAreasSaid : Prop := metaAreasRow.holds Try.pinned (OpenSpec.ofChange metaAreasSpec)

/-- ITS FALSE NEIGHBOUR: 'it returns false'. Refute it at one input. -/
def metaAreasWrong : ChangeSpec := { name := "metaAreas", fn := fun _ => fun
  | [d1, d2] => { results := [.lit (.bool false)], args := [d1, d2] }
  | _ => none }
def MetaAreasWrongFalsely : Prop := metaAreasRow.holds Try.pinned (OpenSpec.ofChange metaAreasWrong)

/-- 'replicalaw05.MetaPlans': WHATEVER THE INPUT: true; the input reads as it did. -/
def metaPlansSpec : ChangeSpec := { name := "metaPlans", fn := fun _ => fun
  | [d1, d2, d3] => { results := [.lit (.bool true)], args := [d1, d2, d3] }
  | _ => none }
def metaPlansRow : OpenClaim := { program := "ytjcinelcocmpnaa", sum := "1f3bb81ba3498362e043f30d800eed5b95f498af0878e52abf55de763248e0b1", func := "replica/replicalaw05.MetaPlans", spec := "metaPlans", apart := false }
def MetaPlansSaid : Prop := metaPlansRow.holds Try.pinned (OpenSpec.ofChange metaPlansSpec)

/-- ITS FALSE NEIGHBOUR: 'it returns false'. Refute it at one input. -/
def metaPlansWrong : ChangeSpec := { name := "metaPlans", fn := fun _ => fun
  | [d1, d2, d3] => { results := [.lit (.bool false)], args := [d1, d2, d3] }
  | _ => none }
def MetaPlansWrongFalsely : Prop := metaPlansRow.holds Try.pinned (OpenSpec.ofChange metaPlansWrong)

/-- 'replicalaw05.MetaUnpacks': WHATEVER THE INPUT: true; the input reads as it did. -/
def metaUnpacksSpec : ChangeSpec := { name := "metaUnpacks", fn := fun _ => fun
  | [d1, d2, d3] => { results := [.lit (.bool true)], args := [d1, d2, d3] }
  | _ => none }
def metaUnpacksRow : OpenClaim := { program := "ytjcinelcocmpnaa", sum := "1f3bb81ba3498362e043f30d800eed5b95f498af0878e52abf55de763248e0b1", func := "replica/replicalaw05.MetaUnpacks", spec := "metaUnpacks", apart := false }
def MetaUnpacksSaid : Prop := metaUnpacksRow.holds Try.pinned (OpenSpec.ofChange metaUnpacksSpec)

/-- ITS FALSE NEIGHBOUR: 'it returns false'. Refute it at one input. -/
def metaUnpacksWrong : ChangeSpec := { name := "metaUnpacks", fn := fun _ => fun
  | [d1, d2, d3] => { results := [.lit (.bool false)], args := [d1, d2, d3] }
  | _ => none }
def MetaUnpacksWrongFalsely : Prop := metaUnpacksRow.holds Try.pinned (OpenSpec.ofChange metaUnpacksWrong)

/-- 'replicalaw05.MetaRegions': WHATEVER THE INPUT: true; the input reads as it did. -/
def metaRegionsSpec : ChangeSpec := { name := "metaRegions", fn := fun _ => fun
  | [d1, d2, d3] => { results := [.lit (.bool true)], args := [d1, d2, d3] }
  | _ => none }
def metaRegionsRow : OpenClaim := { program := "ytjcinelcocmpnaa", sum := "1f3bb81ba3498362e043f30d800eed5b95f498af0878e52abf55de763248e0b1", func := "replica/replicalaw05.MetaRegions", spec := "metaRegions", apart := false }
def MetaRegionsSaid : Prop := metaRegionsRow.holds Try.pinned (OpenSpec.ofChange metaRegionsSpec)

/-- ITS FALSE NEIGHBOUR: 'it returns false'. Refute it at one input. -/
def metaRegionsWrong : ChangeSpec := { name := "metaRegions", fn := fun _ => fun
  | [d1, d2, d3] => { results := [.lit (.bool false)], args := [d1, d2, d3] }
  | _ => none }
def MetaRegionsWrongFalsely : Prop := metaRegionsRow.holds Try.pinned (OpenSpec.ofChange metaRegionsWrong)

/-- 'replicalaw05.MetaBits': WHATEVER THE INPUT: true; the input reads as it did. -/
def metaBitsSpec : ChangeSpec := { name := "metaBits", fn := fun _ => fun
  | [d1, d2, d3, d4] => { results := [.lit (.bool true)], args := [d1, d2, d3, d4] }
  | _ => none }
def metaBitsRow : OpenClaim := { program := "ytjcinelcocmpnaa", sum := "1f3bb81ba3498362e043f30d800eed5b95f498af0878e52abf55de763248e0b1", func := "replica/replicalaw05.MetaBits", spec := "metaBits", apart := false }
def MetaBitsSaid : Prop := metaBitsRow.holds Try.pinned (OpenSpec.ofChange metaBitsSpec)

/-- ITS FALSE NEIGHBOUR: 'it returns false'. Refute it at one input. -/
def metaBitsWrong : ChangeSpec := { name := "metaBits", fn := fun _ => fun
  | [d1, d2, d3, d4] => { results := [.lit (.bool false)], args := [d1, d2, d3, d4] }
  | _ => none }
def MetaBitsWrongFalsely : Prop := metaBitsRow.holds Try.pinned (OpenSpec.ofChange metaBitsWrong)

/- THE SECOND FORM. 'bulk': how many values and letters a reading holds, each counted each time it is reached (what is shared counts as often as it is met; a slice's spare places count too). A statement '..UptoSaid' is the law's where the arguments, and the package variables that the reading takes, are together of bulk at most 1048576: NARROWER than '..Said'. Prove '..Said' where nothing that the law and all that it calls make is longer than what came in: it says more and counts as full. Else prove '..UptoSaid'. A law counts once. -/
mutual
def uptoBulk {H : Type} : DataW H → Nat
  | .lit (.string bytes) => bytes.length + 1
  | .lit _ => 1
  | .nil => 1
  | .ptr d => uptoBulk d + 1
  | .slice elems spare => uptoBulkAll elems + uptoBulkAll spare + 1
  | .agg parts => uptoBulkAll parts + 1
  | .iface _ d => uptoBulk d + 1
  | .map entries => uptoBulkEntries entries + 1
  | .held _ => 1
def uptoBulkAll {H : Type} : List (DataW H) → Nat
  | [] => 0
  | d :: r => uptoBulk d + uptoBulkAll r
def uptoBulkEntries {H : Type} : List (Lit × DataW H) → Nat
  | [] => 0
  | x :: r => uptoBulkEntry x + uptoBulkEntries r
def uptoBulkEntry {H : Type} : Lit × DataW H → Nat
  | (.string bytes, d) => bytes.length + uptoBulk d + 1
  | (_, d) => uptoBulk d + 1
 end
def uptoSmall : (H : Type) → List (DataW H) → Bool := fun _ ds => decide (uptoBulkAll ds ≤ 1048576)
def OpenSpec.upto (s : _root_.Go.ChangeSpec) : _root_.Go.OpenSpec := { _root_.Go.OpenSpec.ofChange s with cond := some uptoSmall }

/-- 'replicalaw05.MetaAreas', WHERE WHAT IT READS IS OF BULK AT MOST 1048576: true; the input reads as it did. -/
def metaAreasUptoRow : OpenClaim := { program := "ytjcinelcocmpnaa", sum := "1f3bb81ba3498362e043f30d800eed5b95f498af0878e52abf55de763248e0b1", func := "replica/replicalaw05.MetaAreas", spec := "metaAreas", apart := false, narrowed := true }
def MetaAreasUptoSaid : Prop := metaAreasUptoRow.holds Try.pinned (OpenSpec.upto metaAreasSpec)

/-- 'replicalaw05.MetaPlans', WHERE WHAT IT READS IS OF BULK AT MOST 1048576: true; the input reads as it did. -/
def metaPlansUptoRow : OpenClaim := { program := "ytjcinelcocmpnaa", sum := "1f3bb81ba3498362e043f30d800eed5b95f498af0878e52abf55de763248e0b1", func := "replica/replicalaw05.MetaPlans", spec := "metaPlans", apart := false, narrowed := true }
def MetaPlansUptoSaid : Prop := metaPlansUptoRow.holds Try.pinned (OpenSpec.upto metaPlansSpec)

/-- 'replicalaw05.MetaUnpacks', WHERE WHAT IT READS IS OF BULK AT MOST 1048576: true; the input reads as it did. -/
def metaUnpacksUptoRow : OpenClaim := { program := "ytjcinelcocmpnaa", sum := "1f3bb81ba3498362e043f30d800eed5b95f498af0878e52abf55de763248e0b1", func := "replica/replicalaw05.MetaUnpacks", spec := "metaUnpacks", apart := false, narrowed := true }
def MetaUnpacksUptoSaid : Prop := metaUnpacksUptoRow.holds Try.pinned (OpenSpec.upto metaUnpacksSpec)

/-- 'replicalaw05.MetaRegions', WHERE WHAT IT READS IS OF BULK AT MOST 1048576: true; the input reads as it did. -/
def metaRegionsUptoRow : OpenClaim := { program := "ytjcinelcocmpnaa", sum := "1f3bb81ba3498362e043f30d800eed5b95f498af0878e52abf55de763248e0b1", func := "replica/replicalaw05.MetaRegions", spec := "metaRegions", apart := false, narrowed := true }
def MetaRegionsUptoSaid : Prop := metaRegionsUptoRow.holds Try.pinned (OpenSpec.upto metaRegionsSpec)

/-- 'replicalaw05.MetaBits', WHERE WHAT IT READS IS OF BULK AT MOST 1048576: true; the input reads as it did. -/
def metaBitsUptoRow : OpenClaim := { program := "ytjcinelcocmpnaa", sum := "1f3bb81ba3498362e043f30d800eed5b95f498af0878e52abf55de763248e0b1", func := "replica/replicalaw05.MetaBits", spec := "metaBits", apart := false, narrowed := true }
def MetaBitsUptoSaid : Prop := metaBitsUptoRow.holds Try.pinned (OpenSpec.upto metaBitsSpec)

end Rows
end Go.Proofs.Ytjcinelcocmpnaa
