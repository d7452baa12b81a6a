/-
  No cell of these rows narrows 'for every input' (looked for: loops, veiled, ifaces, maps, wideKeys, modest, calm, conditions, laid).
  DERIVED. THE GIVEN ROWS OF THIS SEAT. 8 by the template 'for every input the law returns true; each argument reads behind the call as it read before'; 0 by the template 'total and deterministic' (their statements: YtigfcoibbmndpaaGreatTotals.lean).
  GIVEN WITH THE SEED: the statements are not yours to turn. If you find one false, say at which input.
  Laid BY PROGRAM, IN A SANDBOX (cutbox-rows.mjs): the forced cells as the released guide's own fill.sh prints them over the translation 8354c1e10e1e2d43… (all of the seat's roots in one cut). By AI agents, Wed Nov 11 2026. No macro, syntax, notation, axiom, sorry.
-/
import Derived.Test.YtigfcoibbmndpaaGreatChecked
import GoSem.Claim
import GoSem.ClaimJoined
import GoSem.ClaimMapViews
import Derived.JoinedTies
import Derived.KernelRfl
namespace Go.Proofs.YtigfcoibbmndpaaGreat
/- THE CELL 'sum', in the pinned program and in every row, IS THE sha256 OF THE DUMP (.gsa) THAT YtigfcoibbmndpaaGreatProg.lean LOADS. Nothing in Lean hashes anything: it is a label: what it is worth is what the hold of that sum in a sandbox is worth. -/
noncomputable def Tryz.pinned : Pinned := { name := "ytigfcoibbmndpaagreat", sum := "8354c1e10e1e2d431cfd74b995c1c1f2476f919e071e9ce5c066b3bf1dd0b458", checked := Tryz.checked }
namespace Rows
def none {H : Type} : Left H := { results := [], args := [] }

/-- 'replicalaw02.DiskNews': WHATEVER THE INPUT: true; the input reads as it did. -/
def diskNewsSpec : ChangeSpec := { name := "diskNews", fn := fun _ => fun
  | [d] => { results := [.lit (.bool true)], args := [d] }
  | _ => none }
def diskNewsRow : OpenClaim := { program := "ytigfcoibbmndpaagreat", sum := "8354c1e10e1e2d431cfd74b995c1c1f2476f919e071e9ce5c066b3bf1dd0b458", func := "replica/replicalaw02.DiskNews", spec := "diskNews", inPlace := ["internal/reflectlite.TypeOf"], unfollowed := true, recurses := true, apart := false }
def DiskNewsSaid : Prop := diskNewsRow.holds Tryz.pinned (OpenSpec.ofChange diskNewsSpec)

/-- ITS FALSE NEIGHBOUR: 'it returns false'. Refute it at one input. -/
def diskNewsWrong : ChangeSpec := { name := "diskNews", fn := fun _ => fun
  | [d] => { results := [.lit (.bool false)], args := [d] }
  | _ => none }
def DiskNewsWrongFalsely : Prop := diskNewsRow.holds Tryz.pinned (OpenSpec.ofChange diskNewsWrong)

/-- 'replicalaw02.DiskReads': WHATEVER THE INPUT: true; the input reads as it did. -/
def diskReadsSpec : ChangeSpec := { name := "diskReads", fn := fun _ => fun
  | [d1, d2] => { results := [.lit (.bool true)], args := [d1, d2] }
  | _ => none }
def diskReadsRow : OpenClaim := { program := "ytigfcoibbmndpaagreat", sum := "8354c1e10e1e2d431cfd74b995c1c1f2476f919e071e9ce5c066b3bf1dd0b458", func := "replica/replicalaw02.DiskReads", spec := "diskReads", inPlace := ["internal/reflectlite.TypeOf"], unfollowed := true, recurses := true, apart := false }
def DiskReadsSaid : Prop := diskReadsRow.holds Tryz.pinned (OpenSpec.ofChange diskReadsSpec)

/-- ITS FALSE NEIGHBOUR: 'it returns false'. Refute it at one input. -/
def diskReadsWrong : ChangeSpec := { name := "diskReads", fn := fun _ => fun
  | [d1, d2] => { results := [.lit (.bool false)], args := [d1, d2] }
  | _ => none }
def DiskReadsWrongFalsely : Prop := diskReadsRow.holds Tryz.pinned (OpenSpec.ofChange diskReadsWrong)

/-- 'replicalaw02.DiskWrites': WHATEVER THE INPUT: true; the input reads as it did. -/
def diskWritesSpec : ChangeSpec := { name := "diskWrites", fn := fun _ => fun
  | [d1, d2] => { results := [.lit (.bool true)], args := [d1, d2] }
  | _ => none }
def diskWritesRow : OpenClaim := { program := "ytigfcoibbmndpaagreat", sum := "8354c1e10e1e2d431cfd74b995c1c1f2476f919e071e9ce5c066b3bf1dd0b458", func := "replica/replicalaw02.DiskWrites", spec := "diskWrites", inPlace := ["internal/reflectlite.TypeOf"], unfollowed := true, recurses := true, apart := false }
def DiskWritesSaid : Prop := diskWritesRow.holds Tryz.pinned (OpenSpec.ofChange diskWritesSpec)

/-- ITS FALSE NEIGHBOUR: 'it returns false'. Refute it at one input. -/
def diskWritesWrong : ChangeSpec := { name := "diskWrites", fn := fun _ => fun
  | [d1, d2] => { results := [.lit (.bool false)], args := [d1, d2] }
  | _ => none }
def DiskWritesWrongFalsely : Prop := diskWritesRow.holds Tryz.pinned (OpenSpec.ofChange diskWritesWrong)

/-- 'replicalaw02.DiskCaches': WHATEVER THE INPUT: true; the input reads as it did. -/
def diskCachesSpec : ChangeSpec := { name := "diskCaches", fn := fun _ => fun
  | [d1, d2] => { results := [.lit (.bool true)], args := [d1, d2] }
  | _ => none }
def diskCachesRow : OpenClaim := { program := "ytigfcoibbmndpaagreat", sum := "8354c1e10e1e2d431cfd74b995c1c1f2476f919e071e9ce5c066b3bf1dd0b458", func := "replica/replicalaw02.DiskCaches", spec := "diskCaches", inPlace := ["internal/reflectlite.TypeOf"], unfollowed := true, recurses := true, apart := false }
def DiskCachesSaid : Prop := diskCachesRow.holds Tryz.pinned (OpenSpec.ofChange diskCachesSpec)

/-- ITS FALSE NEIGHBOUR: 'it returns false'. Refute it at one input. -/
def diskCachesWrong : ChangeSpec := { name := "diskCaches", fn := fun _ => fun
  | [d1, d2] => { results := [.lit (.bool false)], args := [d1, d2] }
  | _ => none }
def DiskCachesWrongFalsely : Prop := diskCachesRow.holds Tryz.pinned (OpenSpec.ofChange diskCachesWrong)

/-- 'replicalaw02.DiskDurables': WHATEVER THE INPUT: true; the input reads as it did. -/
def diskDurablesSpec : ChangeSpec := { name := "diskDurables", fn := fun _ => fun
  | [d1, d2] => { results := [.lit (.bool true)], args := [d1, d2] }
  | _ => none }
def diskDurablesRow : OpenClaim := { program := "ytigfcoibbmndpaagreat", sum := "8354c1e10e1e2d431cfd74b995c1c1f2476f919e071e9ce5c066b3bf1dd0b458", func := "replica/replicalaw02.DiskDurables", spec := "diskDurables", inPlace := ["internal/reflectlite.TypeOf"], unfollowed := true, recurses := true, apart := false }
def DiskDurablesSaid : Prop := diskDurablesRow.holds Tryz.pinned (OpenSpec.ofChange diskDurablesSpec)

/-- ITS FALSE NEIGHBOUR: 'it returns false'. Refute it at one input. -/
def diskDurablesWrong : ChangeSpec := { name := "diskDurables", fn := fun _ => fun
  | [d1, d2] => { results := [.lit (.bool false)], args := [d1, d2] }
  | _ => none }
def DiskDurablesWrongFalsely : Prop := diskDurablesRow.holds Tryz.pinned (OpenSpec.ofChange diskDurablesWrong)

/-- 'replicalaw02.DiskPowers': WHATEVER THE INPUT: true; the input reads as it did. -/
def diskPowersSpec : ChangeSpec := { name := "diskPowers", fn := fun _ => fun
  | [d1, d2] => { results := [.lit (.bool true)], args := [d1, d2] }
  | _ => none }
def diskPowersRow : OpenClaim := { program := "ytigfcoibbmndpaagreat", sum := "8354c1e10e1e2d431cfd74b995c1c1f2476f919e071e9ce5c066b3bf1dd0b458", func := "replica/replicalaw02.DiskPowers", spec := "diskPowers", inPlace := ["internal/reflectlite.TypeOf"], unfollowed := true, recurses := true, apart := false }
def DiskPowersSaid : Prop := diskPowersRow.holds Tryz.pinned (OpenSpec.ofChange diskPowersSpec)

/-- ITS FALSE NEIGHBOUR: 'it returns false'. Refute it at one input. -/
def diskPowersWrong : ChangeSpec := { name := "diskPowers", fn := fun _ => fun
  | [d1, d2] => { results := [.lit (.bool false)], args := [d1, d2] }
  | _ => none }
def DiskPowersWrongFalsely : Prop := diskPowersRow.holds Tryz.pinned (OpenSpec.ofChange diskPowersWrong)

/-- 'replicalaw02.DiskExact': WHATEVER THE INPUT: true; the input reads as it did. -/
def diskExactSpec : ChangeSpec := { name := "diskExact", fn := fun _ => fun
  | [d1, d2] => { results := [.lit (.bool true)], args := [d1, d2] }
  | _ => none }
def diskExactRow : OpenClaim := { program := "ytigfcoibbmndpaagreat", sum := "8354c1e10e1e2d431cfd74b995c1c1f2476f919e071e9ce5c066b3bf1dd0b458", func := "replica/replicalaw02.DiskExact", spec := "diskExact", inPlace := ["internal/reflectlite.TypeOf"], unfollowed := true, recurses := true, apart := false }
def DiskExactSaid : Prop := diskExactRow.holds Tryz.pinned (OpenSpec.ofChange diskExactSpec)

/-- ITS FALSE NEIGHBOUR: 'it returns false'. Refute it at one input. -/
def diskExactWrong : ChangeSpec := { name := "diskExact", fn := fun _ => fun
  | [d1, d2] => { results := [.lit (.bool false)], args := [d1, d2] }
  | _ => none }
def DiskExactWrongFalsely : Prop := diskExactRow.holds Tryz.pinned (OpenSpec.ofChange diskExactWrong)

/-- 'replicalaw02.DiskPair': WHATEVER THE INPUT: true; the input reads as it did. -/
def diskPairSpec : ChangeSpec := { name := "diskPair", fn := fun _ => fun
  | [d1, d2, d3, d4] => { results := [.lit (.bool true)], args := [d1, d2, d3, d4] }
  | _ => none }
def diskPairRow : OpenClaim := { program := "ytigfcoibbmndpaagreat", sum := "8354c1e10e1e2d431cfd74b995c1c1f2476f919e071e9ce5c066b3bf1dd0b458", func := "replica/replicalaw02.DiskPair", spec := "diskPair", inPlace := ["internal/reflectlite.TypeOf"], unfollowed := true, recurses := true, apart := false }
def DiskPairSaid : Prop := diskPairRow.holds Tryz.pinned (OpenSpec.ofChange diskPairSpec)

/-- ITS FALSE NEIGHBOUR: 'it returns false'. Refute it at one input. -/
def diskPairWrong : ChangeSpec := { name := "diskPair", fn := fun _ => fun
  | [d1, d2, d3, d4] => { results := [.lit (.bool false)], args := [d1, d2, d3, d4] }
  | _ => none }
def DiskPairWrongFalsely : Prop := diskPairRow.holds Tryz.pinned (OpenSpec.ofChange diskPairWrong)

/- THE SECOND FORM. 'bulk': how many values and letters a reading holds, each counted each time it is reached (what is shared counts as often as it is met; a slice's spare places count too). A statement '..UptoSaid' is the law's where the arguments, and the package variables that the reading takes, are together of bulk at most 1048576: NARROWER than '..Said'. Prove '..Said' where nothing that the law and all that it calls make is longer than what came in: it says more and counts as full. Else prove '..UptoSaid'. A law counts once. -/
mutual
def uptoBulk {H : Type} : DataW H → Nat
  | .lit (.string bytes) => bytes.length + 1
  | .lit _ => 1
  | .nil => 1
  | .ptr d => uptoBulk d + 1
  | .slice elems spare => uptoBulkAll elems + uptoBulkAll spare + 1
  | .agg parts => uptoBulkAll parts + 1
  | .iface _ d => uptoBulk d + 1
  | .map entries => uptoBulkEntries entries + 1
  | .held _ => 1
def uptoBulkAll {H : Type} : List (DataW H) → Nat
  | [] => 0
  | d :: r => uptoBulk d + uptoBulkAll r
def uptoBulkEntries {H : Type} : List (Lit × DataW H) → Nat
  | [] => 0
  | x :: r => uptoBulkEntry x + uptoBulkEntries r
def uptoBulkEntry {H : Type} : Lit × DataW H → Nat
  | (.string bytes, d) => bytes.length + uptoBulk d + 1
  | (_, d) => uptoBulk d + 1
 end
def uptoSmall : (H : Type) → List (DataW H) → Bool := fun _ ds => decide (uptoBulkAll ds ≤ 1048576)
def OpenSpec.upto (s : _root_.Go.ChangeSpec) : _root_.Go.OpenSpec := { _root_.Go.OpenSpec.ofChange s with cond := some uptoSmall }

/-- 'replicalaw02.DiskNews', WHERE WHAT IT READS IS OF BULK AT MOST 1048576: true; the input reads as it did. -/
def diskNewsUptoRow : OpenClaim := { program := "ytigfcoibbmndpaagreat", sum := "8354c1e10e1e2d431cfd74b995c1c1f2476f919e071e9ce5c066b3bf1dd0b458", func := "replica/replicalaw02.DiskNews", spec := "diskNews", inPlace := ["internal/reflectlite.TypeOf"], unfollowed := true, recurses := true, apart := false, narrowed := true }
def DiskNewsUptoSaid : Prop := diskNewsUptoRow.holds Tryz.pinned (OpenSpec.upto diskNewsSpec)

/-- 'replicalaw02.DiskReads', WHERE WHAT IT READS IS OF BULK AT MOST 1048576: true; the input reads as it did. -/
def diskReadsUptoRow : OpenClaim := { program := "ytigfcoibbmndpaagreat", sum := "8354c1e10e1e2d431cfd74b995c1c1f2476f919e071e9ce5c066b3bf1dd0b458", func := "replica/replicalaw02.DiskReads", spec := "diskReads", inPlace := ["internal/reflectlite.TypeOf"], unfollowed := true, recurses := true, apart := false, narrowed := true }
def DiskReadsUptoSaid : Prop := diskReadsUptoRow.holds Tryz.pinned (OpenSpec.upto diskReadsSpec)

/-- 'replicalaw02.DiskWrites', WHERE WHAT IT READS IS OF BULK AT MOST 1048576: true; the input reads as it did. -/
def diskWritesUptoRow : OpenClaim := { program := "ytigfcoibbmndpaagreat", sum := "8354c1e10e1e2d431cfd74b995c1c1f2476f919e071e9ce5c066b3bf1dd0b458", func := "replica/replicalaw02.DiskWrites", spec := "diskWrites", inPlace := ["internal/reflectlite.TypeOf"], unfollowed := true, recurses := true, apart := false, narrowed := true }
def DiskWritesUptoSaid : Prop := diskWritesUptoRow.holds Tryz.pinned (OpenSpec.upto diskWritesSpec)

/-- 'replicalaw02.DiskCaches', WHERE WHAT IT READS IS OF BULK AT MOST 1048576: true; the input reads as it did. -/
def diskCachesUptoRow : OpenClaim := { program := "ytigfcoibbmndpaagreat", sum := "8354c1e10e1e2d431cfd74b995c1c1f2476f919e071e9ce5c066b3bf1dd0b458", func := "replica/replicalaw02.DiskCaches", spec := "diskCaches", inPlace := ["internal/reflectlite.TypeOf"], unfollowed := true, recurses := true, apart := false, narrowed := true }
def DiskCachesUptoSaid : Prop := diskCachesUptoRow.holds Tryz.pinned (OpenSpec.upto diskCachesSpec)

/-- 'replicalaw02.DiskDurables', WHERE WHAT IT READS IS OF BULK AT MOST 1048576: true; the input reads as it did. -/
def diskDurablesUptoRow : OpenClaim := { program := "ytigfcoibbmndpaagreat", sum := "8354c1e10e1e2d431cfd74b995c1c1f2476f919e071e9ce5c066b3bf1dd0b458", func := "replica/replicalaw02.DiskDurables", spec := "diskDurables", inPlace := ["internal/reflectlite.TypeOf"], unfollowed := true, recurses := true, apart := false, narrowed := true }
def DiskDurablesUptoSaid : Prop := diskDurablesUptoRow.holds Tryz.pinned (OpenSpec.upto diskDurablesSpec)

/-- 'replicalaw02.DiskPowers', WHERE WHAT IT READS IS OF BULK AT MOST 1048576: true; the input reads as it did. -/
def diskPowersUptoRow : OpenClaim := { program := "ytigfcoibbmndpaagreat", sum := "8354c1e10e1e2d431cfd74b995c1c1f2476f919e071e9ce5c066b3bf1dd0b458", func := "replica/replicalaw02.DiskPowers", spec := "diskPowers", inPlace := ["internal/reflectlite.TypeOf"], unfollowed := true, recurses := true, apart := false, narrowed := true }
def DiskPowersUptoSaid : Prop := diskPowersUptoRow.holds Tryz.pinned (OpenSpec.upto diskPowersSpec)

/-- 'replicalaw02.DiskExact', WHERE WHAT IT READS IS OF BULK AT MOST 1048576: true; the input reads as it did. -/
def diskExactUptoRow : OpenClaim := { program := "ytigfcoibbmndpaagreat", sum := "8354c1e10e1e2d431cfd74b995c1c1f2476f919e071e9ce5c066b3bf1dd0b458", func := "replica/replicalaw02.DiskExact", spec := "diskExact", inPlace := ["internal/reflectlite.TypeOf"], unfollowed := true, recurses := true, apart := false, narrowed := true }
def DiskExactUptoSaid : Prop := diskExactUptoRow.holds Tryz.pinned (OpenSpec.upto diskExactSpec)

/-- 'replicalaw02.DiskPair', WHERE WHAT IT READS IS OF BULK AT MOST 1048576: true; the input reads as it did. -/
def diskPairUptoRow : OpenClaim := { program := "ytigfcoibbmndpaagreat", sum := "8354c1e10e1e2d431cfd74b995c1c1f2476f919e071e9ce5c066b3bf1dd0b458", func := "replica/replicalaw02.DiskPair", spec := "diskPair", inPlace := ["internal/reflectlite.TypeOf"], unfollowed := true, recurses := true, apart := false, narrowed := true }
def DiskPairUptoSaid : Prop := diskPairUptoRow.holds Tryz.pinned (OpenSpec.upto diskPairSpec)

end Rows
end Go.Proofs.YtigfcoibbmndpaaGreat
