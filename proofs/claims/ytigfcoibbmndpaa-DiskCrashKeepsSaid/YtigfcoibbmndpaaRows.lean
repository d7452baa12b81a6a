/-
  No cell of these rows narrows 'for every input' (looked for: loops, veiled, ifaces, maps, wideKeys, modest, calm, conditions, laid).
  DERIVED. THE GIVEN ROWS OF THIS SEAT. 7 by the template 'for every input the law returns true; each argument reads behind the call as it read before'; 0 by the template 'total and deterministic' (their statements: YtigfcoibbmndpaaTotals.lean).
  GIVEN WITH THE SEED: the statements are not yours to turn. If you find one false, say at which input.
  Laid BY PROGRAM, IN A SANDBOX (cutbox-rows.mjs): the forced cells as the released guide's own fill.sh prints them over the translation 327fd4c6b741e7d7… (all of the seat's roots in one cut). By AI agents, Wed Nov 11 2026. No macro, syntax, notation, axiom, sorry.
-/
import Derived.Test.YtigfcoibbmndpaaChecked
import GoSem.Claim
import GoSem.ClaimJoined
import GoSem.ClaimMapViews
import Derived.JoinedTies
import Derived.KernelRfl
namespace Go.Proofs.Ytigfcoibbmndpaa
/- THE CELL 'sum', in the pinned program and in every row, IS THE sha256 OF THE DUMP (.gsa) THAT YtigfcoibbmndpaaProg.lean LOADS. Nothing in Lean hashes anything: it is a label: what it is worth is what the hold of that sum in a sandbox is worth. -/
noncomputable def Try.pinned : Pinned := { name := "ytigfcoibbmndpaa", sum := "327fd4c6b741e7d76d9225f174932c1705f714598ce37e1a030719c41a3c5657", checked := Try.checked }
namespace Rows
def none {H : Type} : Left H := { results := [], args := [] }

/-- 'replicalaw02.DiskBarrier': WHATEVER THE INPUT: true; the input reads as it did. -/
def diskBarrierSpec : ChangeSpec := { name := "diskBarrier", fn := fun _ => fun
  | [d1, d2, d3, d4, d5, d6] => { results := [.lit (.bool true)], args := [d1, d2, d3, d4, d5, d6] }
  | _ => none }
def diskBarrierRow : OpenClaim := { program := "ytigfcoibbmndpaa", sum := "327fd4c6b741e7d76d9225f174932c1705f714598ce37e1a030719c41a3c5657", func := "replica/replicalaw02.DiskBarrier", spec := "diskBarrier", inPlace := ["internal/reflectlite.TypeOf"], unfollowed := true, recurses := true, apart := false }
def DiskBarrierSaid : Prop := diskBarrierRow.holds Try.pinned (OpenSpec.ofChange diskBarrierSpec)

/-- ITS FALSE NEIGHBOUR: 'it returns false'. Refute it at one input. -/
def diskBarrierWrong : ChangeSpec := { name := "diskBarrier", fn := fun _ => fun
  | [d1, d2, d3, d4, d5, d6] => { results := [.lit (.bool false)], args := [d1, d2, d3, d4, d5, d6] }
  | _ => none }
def DiskBarrierWrongFalsely : Prop := diskBarrierRow.holds Try.pinned (OpenSpec.ofChange diskBarrierWrong)

/-- 'replicalaw02.DiskCrashKeeps': WHATEVER THE INPUT: true; the input reads as it did. -/
def diskCrashKeepsSpec : ChangeSpec := { name := "diskCrashKeeps", fn := fun _ => fun
  | [d1, d2, d3, d4, d5] => { results := [.lit (.bool true)], args := [d1, d2, d3, d4, d5] }
  | _ => none }
def diskCrashKeepsRow : OpenClaim := { program := "ytigfcoibbmndpaa", sum := "327fd4c6b741e7d76d9225f174932c1705f714598ce37e1a030719c41a3c5657", func := "replica/replicalaw02.DiskCrashKeeps", spec := "diskCrashKeeps", inPlace := ["internal/reflectlite.TypeOf"], unfollowed := true, recurses := true, apart := false }
def DiskCrashKeepsSaid : Prop := diskCrashKeepsRow.holds Try.pinned (OpenSpec.ofChange diskCrashKeepsSpec)

/-- ITS FALSE NEIGHBOUR: 'it returns false'. Refute it at one input. -/
def diskCrashKeepsWrong : ChangeSpec := { name := "diskCrashKeeps", fn := fun _ => fun
  | [d1, d2, d3, d4, d5] => { results := [.lit (.bool false)], args := [d1, d2, d3, d4, d5] }
  | _ => none }
def DiskCrashKeepsWrongFalsely : Prop := diskCrashKeepsRow.holds Try.pinned (OpenSpec.ofChange diskCrashKeepsWrong)

/-- 'replicalaw02.DiskCut': WHATEVER THE INPUT: true; the input reads as it did. -/
def diskCutSpec : ChangeSpec := { name := "diskCut", fn := fun _ => fun
  | [d1, d2, d3, d4, d5, d6] => { results := [.lit (.bool true)], args := [d1, d2, d3, d4, d5, d6] }
  | _ => none }
def diskCutRow : OpenClaim := { program := "ytigfcoibbmndpaa", sum := "327fd4c6b741e7d76d9225f174932c1705f714598ce37e1a030719c41a3c5657", func := "replica/replicalaw02.DiskCut", spec := "diskCut", inPlace := ["internal/reflectlite.TypeOf"], unfollowed := true, recurses := true, apart := false }
def DiskCutSaid : Prop := diskCutRow.holds Try.pinned (OpenSpec.ofChange diskCutSpec)

/-- ITS FALSE NEIGHBOUR: 'it returns false'. Refute it at one input. -/
def diskCutWrong : ChangeSpec := { name := "diskCut", fn := fun _ => fun
  | [d1, d2, d3, d4, d5, d6] => { results := [.lit (.bool false)], args := [d1, d2, d3, d4, d5, d6] }
  | _ => none }
def DiskCutWrongFalsely : Prop := diskCutRow.holds Try.pinned (OpenSpec.ofChange diskCutWrong)

/-- 'replicalaw02.DiskRefused': WHATEVER THE INPUT: true; the input reads as it did. -/
def diskRefusedSpec : ChangeSpec := { name := "diskRefused", fn := fun _ => fun
  | [d1, d2, d3, d4, d5, d6] => { results := [.lit (.bool true)], args := [d1, d2, d3, d4, d5, d6] }
  | _ => none }
def diskRefusedRow : OpenClaim := { program := "ytigfcoibbmndpaa", sum := "327fd4c6b741e7d76d9225f174932c1705f714598ce37e1a030719c41a3c5657", func := "replica/replicalaw02.DiskRefused", spec := "diskRefused", inPlace := ["internal/reflectlite.TypeOf"], unfollowed := true, recurses := true, apart := false }
def DiskRefusedSaid : Prop := diskRefusedRow.holds Try.pinned (OpenSpec.ofChange diskRefusedSpec)

/-- ITS FALSE NEIGHBOUR: 'it returns false'. Refute it at one input. -/
def diskRefusedWrong : ChangeSpec := { name := "diskRefused", fn := fun _ => fun
  | [d1, d2, d3, d4, d5, d6] => { results := [.lit (.bool false)], args := [d1, d2, d3, d4, d5, d6] }
  | _ => none }
def DiskRefusedWrongFalsely : Prop := diskRefusedRow.holds Try.pinned (OpenSpec.ofChange diskRefusedWrong)

/-- 'replicalaw02.DiskThrough': WHATEVER THE INPUT: true; the input reads as it did. -/
def diskThroughSpec : ChangeSpec := { name := "diskThrough", fn := fun _ => fun
  | [d1, d2, d3, d4, d5, d6, d7] => { results := [.lit (.bool true)], args := [d1, d2, d3, d4, d5, d6, d7] }
  | _ => none }
def diskThroughRow : OpenClaim := { program := "ytigfcoibbmndpaa", sum := "327fd4c6b741e7d76d9225f174932c1705f714598ce37e1a030719c41a3c5657", func := "replica/replicalaw02.DiskThrough", spec := "diskThrough", inPlace := ["internal/reflectlite.TypeOf"], unfollowed := true, recurses := true, apart := false }
def DiskThroughSaid : Prop := diskThroughRow.holds Try.pinned (OpenSpec.ofChange diskThroughSpec)

/-- ITS FALSE NEIGHBOUR: 'it returns false'. Refute it at one input. -/
def diskThroughWrong : ChangeSpec := { name := "diskThrough", fn := fun _ => fun
  | [d1, d2, d3, d4, d5, d6, d7] => { results := [.lit (.bool false)], args := [d1, d2, d3, d4, d5, d6, d7] }
  | _ => none }
def DiskThroughWrongFalsely : Prop := diskThroughRow.holds Try.pinned (OpenSpec.ofChange diskThroughWrong)

/-- 'replicalaw02.DiskAgain': WHATEVER THE INPUT: true; the input reads as it did. -/
def diskAgainSpec : ChangeSpec := { name := "diskAgain", fn := fun _ => fun
  | [d1, d2, d3, d4, d5, d6] => { results := [.lit (.bool true)], args := [d1, d2, d3, d4, d5, d6] }
  | _ => none }
def diskAgainRow : OpenClaim := { program := "ytigfcoibbmndpaa", sum := "327fd4c6b741e7d76d9225f174932c1705f714598ce37e1a030719c41a3c5657", func := "replica/replicalaw02.DiskAgain", spec := "diskAgain", inPlace := ["internal/reflectlite.TypeOf"], unfollowed := true, recurses := true, apart := false }
def DiskAgainSaid : Prop := diskAgainRow.holds Try.pinned (OpenSpec.ofChange diskAgainSpec)

/-- ITS FALSE NEIGHBOUR: 'it returns false'. Refute it at one input. -/
def diskAgainWrong : ChangeSpec := { name := "diskAgain", fn := fun _ => fun
  | [d1, d2, d3, d4, d5, d6] => { results := [.lit (.bool false)], args := [d1, d2, d3, d4, d5, d6] }
  | _ => none }
def DiskAgainWrongFalsely : Prop := diskAgainRow.holds Try.pinned (OpenSpec.ofChange diskAgainWrong)

/-- 'replicalaw02.DiskBack': WHATEVER THE INPUT: true; the input reads as it did. -/
def diskBackSpec : ChangeSpec := { name := "diskBack", fn := fun _ => fun
  | [d1, d2, d3, d4] => { results := [.lit (.bool true)], args := [d1, d2, d3, d4] }
  | _ => none }
def diskBackRow : OpenClaim := { program := "ytigfcoibbmndpaa", sum := "327fd4c6b741e7d76d9225f174932c1705f714598ce37e1a030719c41a3c5657", func := "replica/replicalaw02.DiskBack", spec := "diskBack", inPlace := ["internal/reflectlite.TypeOf"], unfollowed := true, recurses := true, apart := false }
def DiskBackSaid : Prop := diskBackRow.holds Try.pinned (OpenSpec.ofChange diskBackSpec)

/-- ITS FALSE NEIGHBOUR: 'it returns false'. Refute it at one input. -/
def diskBackWrong : ChangeSpec := { name := "diskBack", fn := fun _ => fun
  | [d1, d2, d3, d4] => { results := [.lit (.bool false)], args := [d1, d2, d3, d4] }
  | _ => none }
def DiskBackWrongFalsely : Prop := diskBackRow.holds Try.pinned (OpenSpec.ofChange diskBackWrong)

/- THE SECOND FORM. 'bulk': how many values and letters a reading holds, each counted each time it is reached (what is shared counts as often as it is met; a slice's spare places count too). A statement '..UptoSaid' is the law's where the arguments, and the package variables that the reading takes, are together of bulk at most 1048576: NARROWER than '..Said'. Prove '..Said' where nothing that the law and all that it calls make is longer than what came in: it says more and counts as full. Else prove '..UptoSaid'. A law counts once. -/
mutual
def uptoBulk {H : Type} : DataW H → Nat
  | .lit (.string bytes) => bytes.length + 1
  | .lit _ => 1
  | .nil => 1
  | .ptr d => uptoBulk d + 1
  | .slice elems spare => uptoBulkAll elems + uptoBulkAll spare + 1
  | .agg parts => uptoBulkAll parts + 1
  | .iface _ d => uptoBulk d + 1
  | .map entries => uptoBulkEntries entries + 1
  | .held _ => 1
def uptoBulkAll {H : Type} : List (DataW H) → Nat
  | [] => 0
  | d :: r => uptoBulk d + uptoBulkAll r
def uptoBulkEntries {H : Type} : List (Lit × DataW H) → Nat
  | [] => 0
  | x :: r => uptoBulkEntry x + uptoBulkEntries r
def uptoBulkEntry {H : Type} : Lit × DataW H → Nat
  | (.string bytes, d) => bytes.length + uptoBulk d + 1
  | (_, d) => uptoBulk d + 1
 end
def uptoSmall : (H : Type) → List (DataW H) → Bool := fun _ ds => decide (uptoBulkAll ds ≤ 1048576)
def OpenSpec.upto (s : _root_.Go.ChangeSpec) : _root_.Go.OpenSpec := { _root_.Go.OpenSpec.ofChange s with cond := some uptoSmall }

/-- 'replicalaw02.DiskBarrier', WHERE WHAT IT READS IS OF BULK AT MOST 1048576: true; the input reads as it did. -/
def diskBarrierUptoRow : OpenClaim := { program := "ytigfcoibbmndpaa", sum := "327fd4c6b741e7d76d9225f174932c1705f714598ce37e1a030719c41a3c5657", func := "replica/replicalaw02.DiskBarrier", spec := "diskBarrier", inPlace := ["internal/reflectlite.TypeOf"], unfollowed := true, recurses := true, apart := false, narrowed := true }
def DiskBarrierUptoSaid : Prop := diskBarrierUptoRow.holds Try.pinned (OpenSpec.upto diskBarrierSpec)

/-- 'replicalaw02.DiskCrashKeeps', WHERE WHAT IT READS IS OF BULK AT MOST 1048576: true; the input reads as it did. -/
def diskCrashKeepsUptoRow : OpenClaim := { program := "ytigfcoibbmndpaa", sum := "327fd4c6b741e7d76d9225f174932c1705f714598ce37e1a030719c41a3c5657", func := "replica/replicalaw02.DiskCrashKeeps", spec := "diskCrashKeeps", inPlace := ["internal/reflectlite.TypeOf"], unfollowed := true, recurses := true, apart := false, narrowed := true }
def DiskCrashKeepsUptoSaid : Prop := diskCrashKeepsUptoRow.holds Try.pinned (OpenSpec.upto diskCrashKeepsSpec)

/-- 'replicalaw02.DiskCut', WHERE WHAT IT READS IS OF BULK AT MOST 1048576: true; the input reads as it did. -/
def diskCutUptoRow : OpenClaim := { program := "ytigfcoibbmndpaa", sum := "327fd4c6b741e7d76d9225f174932c1705f714598ce37e1a030719c41a3c5657", func := "replica/replicalaw02.DiskCut", spec := "diskCut", inPlace := ["internal/reflectlite.TypeOf"], unfollowed := true, recurses := true, apart := false, narrowed := true }
def DiskCutUptoSaid : Prop := diskCutUptoRow.holds Try.pinned (OpenSpec.upto diskCutSpec)

/-- 'replicalaw02.DiskRefused', WHERE WHAT IT READS IS OF BULK AT MOST 1048576: true; the input reads as it did. -/
def diskRefusedUptoRow : OpenClaim := { program := "ytigfcoibbmndpaa", sum := "327fd4c6b741e7d76d9225f174932c1705f714598ce37e1a030719c41a3c5657", func := "replica/replicalaw02.DiskRefused", spec := "diskRefused", inPlace := ["internal/reflectlite.TypeOf"], unfollowed := true, recurses := true, apart := false, narrowed := true }
def DiskRefusedUptoSaid : Prop := diskRefusedUptoRow.holds Try.pinned (OpenSpec.upto diskRefusedSpec)

/-- 'replicalaw02.DiskThrough', WHERE WHAT IT READS IS OF BULK AT MOST 1048576: true; the input reads as it did. -/
def diskThroughUptoRow : OpenClaim := { program := "ytigfcoibbmndpaa", sum := "327fd4c6b741e7d76d9225f174932c1705f714598ce37e1a030719c41a3c5657", func := "replica/replicalaw02.DiskThrough", spec := "diskThrough", inPlace := ["internal/reflectlite.TypeOf"], unfollowed := true, recurses := true, apart := false, narrowed := true }
def DiskThroughUptoSaid : Prop := diskThroughUptoRow.holds Try.pinned (OpenSpec.upto diskThroughSpec)

/-- 'replicalaw02.DiskAgain', WHERE WHAT IT READS IS OF BULK AT MOST 1048576: true; the input reads as it did. -/
def diskAgainUptoRow : OpenClaim := { program := "ytigfcoibbmndpaa", sum := "327fd4c6b741e7d76d9225f174932c1705f714598ce37e1a030719c41a3c5657", func := "replica/replicalaw02.DiskAgain", spec := "diskAgain", inPlace := ["internal/reflectlite.TypeOf"], unfollowed := true, recurses := true, apart := false, narrowed := true }
def DiskAgainUptoSaid : Prop := diskAgainUptoRow.holds Try.pinned (OpenSpec.upto diskAgainSpec)

/-- 'replicalaw02.DiskBack', WHERE WHAT IT READS IS OF BULK AT MOST 1048576: true; the input reads as it did. -/
def diskBackUptoRow : OpenClaim := { program := "ytigfcoibbmndpaa", sum := "327fd4c6b741e7d76d9225f174932c1705f714598ce37e1a030719c41a3c5657", func := "replica/replicalaw02.DiskBack", spec := "diskBack", inPlace := ["internal/reflectlite.TypeOf"], unfollowed := true, recurses := true, apart := false, narrowed := true }
def DiskBackUptoSaid : Prop := diskBackUptoRow.holds Try.pinned (OpenSpec.upto diskBackSpec)

end Rows
end Go.Proofs.Ytigfcoibbmndpaa
