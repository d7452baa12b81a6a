/-
  NARROWER THAN 'FOR EVERY INPUT', by the rows' own cells (each row's printed sentence says how): MetaSeals: laid · MetaUnseals: laid · MetaChooses: laid · MetaRound: laid · MetaSealed: laid · MetaSpoilt: laid · MetaNewer: laid.
  DERIVED. THE GIVEN ROWS OF THIS SEAT. 7 by the template 'for every input the law returns true; each argument reads behind the call as it read before'; 0 by the template 'total and deterministic' (their statements: YtjcinelcocmpnaaDoorTotals.lean).
  GIVEN WITH THE SEED: the statements are not yours to turn. If you find one false, say at which input.
  Laid BY PROGRAM, IN A SANDBOX (cutbox-rows.mjs): the forced cells as the released guide's own fill.sh prints them over the translation 8d26282cacc07d93… (all of the seat's roots in one cut). By AI agents, Wed Nov 11 2026. No macro, syntax, notation, axiom, sorry.
-/
import Derived.Test.YtjcinelcocmpnaaDoorChecked
import GoSem.Claim
import GoSem.ClaimJoined
import GoSem.ClaimMapViews
import Derived.JoinedTies
import Derived.KernelRfl
namespace Go.Proofs.YtjcinelcocmpnaaDoor
/- THE CELL 'sum', in the pinned program and in every row, IS THE sha256 OF THE DUMP (.gsa) THAT YtjcinelcocmpnaaDoorProg.lean LOADS. Nothing in Lean hashes anything: it is a label: what it is worth is what the hold of that sum in a sandbox is worth. -/
noncomputable def Tryd.pinned : Pinned := { name := "ytjcinelcocmpnaadoor", sum := "8d26282cacc07d930343aa7cfebee0fc88681ee12222bd5ac354558410d66a9c", checked := Tryd.checked }
namespace Rows
def none {H : Type} : Left H := { results := [], args := [] }

/- WHAT THE LISTED PACKAGE-LEVEL VARIABLES READ AS WHEN THE CALL BEGINS. Each datum BY PROGRAM (the guide's laid-datum.mjs) off the statement by which the dump's own 'gosem.cut.vars' lays the variable. In a bare row this is a premise. The card (YtjcinelcocmpnaaDoorCards.lean) ties it to the program's text. -/
def laid_replica_digest_rounds {H : Type} : DataW H := .agg [.lit (.int .u32 1116352408), .lit (.int .u32 1899447441), .lit (.int .u32 3049323471), .lit (.int .u32 3921009573), .lit (.int .u32 961987163), .lit (.int .u32 1508970993), .lit (.int .u32 2453635748), .lit (.int .u32 2870763221), .lit (.int .u32 3624381080), .lit (.int .u32 310598401), .lit (.int .u32 607225278), .lit (.int .u32 1426881987), .lit (.int .u32 1925078388), .lit (.int .u32 2162078206), .lit (.int .u32 2614888103), .lit (.int .u32 3248222580), .lit (.int .u32 3835390401), .lit (.int .u32 4022224774), .lit (.int .u32 264347078), .lit (.int .u32 604807628), .lit (.int .u32 770255983), .lit (.int .u32 1249150122), .lit (.int .u32 1555081692), .lit (.int .u32 1996064986), .lit (.int .u32 2554220882), .lit (.int .u32 2821834349), .lit (.int .u32 2952996808), .lit (.int .u32 3210313671), .lit (.int .u32 3336571891), .lit (.int .u32 3584528711), .lit (.int .u32 113926993), .lit (.int .u32 338241895), .lit (.int .u32 666307205), .lit (.int .u32 773529912), .lit (.int .u32 1294757372), .lit (.int .u32 1396182291), .lit (.int .u32 1695183700), .lit (.int .u32 1986661051), .lit (.int .u32 2177026350), .lit (.int .u32 2456956037), .lit (.int .u32 2730485921), .lit (.int .u32 2820302411), .lit (.int .u32 3259730800), .lit (.int .u32 3345764771), .lit (.int .u32 3516065817), .lit (.int .u32 3600352804), .lit (.int .u32 4094571909), .lit (.int .u32 275423344), .lit (.int .u32 430227734), .lit (.int .u32 506948616), .lit (.int .u32 659060556), .lit (.int .u32 883997877), .lit (.int .u32 958139571), .lit (.int .u32 1322822218), .lit (.int .u32 1537002063), .lit (.int .u32 1747873779), .lit (.int .u32 1955562222), .lit (.int .u32 2024104815), .lit (.int .u32 2227730452), .lit (.int .u32 2361852424), .lit (.int .u32 2428436474), .lit (.int .u32 2756734187), .lit (.int .u32 3204031479), .lit (.int .u32 3329325298)]
def laid_replica_digest_start {H : Type} : DataW H := .agg [.lit (.int .u32 1779033703), .lit (.int .u32 3144134277), .lit (.int .u32 1013904242), .lit (.int .u32 2773480762), .lit (.int .u32 1359893119), .lit (.int .u32 2600822924), .lit (.int .u32 528734635), .lit (.int .u32 1541459225)]
def laid_replica_replicaref01_begin {H : Type} : DataW H := .agg [.lit (.int .u32 1779033703), .lit (.int .u32 3144134277), .lit (.int .u32 1013904242), .lit (.int .u32 2773480762), .lit (.int .u32 1359893119), .lit (.int .u32 2600822924), .lit (.int .u32 528734635), .lit (.int .u32 1541459225)]
def laid_replica_replicaref01_round {H : Type} : DataW H := .agg [.lit (.int .u32 1116352408), .lit (.int .u32 1899447441), .lit (.int .u32 3049323471), .lit (.int .u32 3921009573), .lit (.int .u32 961987163), .lit (.int .u32 1508970993), .lit (.int .u32 2453635748), .lit (.int .u32 2870763221), .lit (.int .u32 3624381080), .lit (.int .u32 310598401), .lit (.int .u32 607225278), .lit (.int .u32 1426881987), .lit (.int .u32 1925078388), .lit (.int .u32 2162078206), .lit (.int .u32 2614888103), .lit (.int .u32 3248222580), .lit (.int .u32 3835390401), .lit (.int .u32 4022224774), .lit (.int .u32 264347078), .lit (.int .u32 604807628), .lit (.int .u32 770255983), .lit (.int .u32 1249150122), .lit (.int .u32 1555081692), .lit (.int .u32 1996064986), .lit (.int .u32 2554220882), .lit (.int .u32 2821834349), .lit (.int .u32 2952996808), .lit (.int .u32 3210313671), .lit (.int .u32 3336571891), .lit (.int .u32 3584528711), .lit (.int .u32 113926993), .lit (.int .u32 338241895), .lit (.int .u32 666307205), .lit (.int .u32 773529912), .lit (.int .u32 1294757372), .lit (.int .u32 1396182291), .lit (.int .u32 1695183700), .lit (.int .u32 1986661051), .lit (.int .u32 2177026350), .lit (.int .u32 2456956037), .lit (.int .u32 2730485921), .lit (.int .u32 2820302411), .lit (.int .u32 3259730800), .lit (.int .u32 3345764771), .lit (.int .u32 3516065817), .lit (.int .u32 3600352804), .lit (.int .u32 4094571909), .lit (.int .u32 275423344), .lit (.int .u32 430227734), .lit (.int .u32 506948616), .lit (.int .u32 659060556), .lit (.int .u32 883997877), .lit (.int .u32 958139571), .lit (.int .u32 1322822218), .lit (.int .u32 1537002063), .lit (.int .u32 1747873779), .lit (.int .u32 1955562222), .lit (.int .u32 2024104815), .lit (.int .u32 2227730452), .lit (.int .u32 2361852424), .lit (.int .u32 2428436474), .lit (.int .u32 2756734187), .lit (.int .u32 3204031479), .lit (.int .u32 3329325298)]

/-- 'replicalaw05.MetaSeals': WHATEVER THE INPUT: true; the input reads as it did. -/
def metaSealsSpec : ChangeSpec := { name := "metaSeals", fn := fun _ => fun
  | [d] => { results := [.lit (.bool true)], args := [d] }
  | _ => none }
def metaSealsRow : OpenClaim := { program := "ytjcinelcocmpnaadoor", sum := "8d26282cacc07d930343aa7cfebee0fc88681ee12222bd5ac354558410d66a9c", func := "replica/replicalaw05.MetaSeals", spec := "metaSeals", named := ["replica/digest.start", "replica/digest.rounds", "replica/replicaref01.begin", "replica/replicaref01.round"], apart := false, laid := [("replica/digest.rounds", laid_replica_digest_rounds), ("replica/digest.start", laid_replica_digest_start), ("replica/replicaref01.begin", laid_replica_replicaref01_begin), ("replica/replicaref01.round", laid_replica_replicaref01_round)] }
def MetaSealsSaid : Prop := metaSealsRow.holds Tryd.pinned (OpenSpec.ofChange metaSealsSpec)

/-- ITS FALSE NEIGHBOUR: 'it returns false'. Refute it at one input. -/
def metaSealsWrong : ChangeSpec := { name := "metaSeals", fn := fun _ => fun
  | [d] => { results := [.lit (.bool false)], args := [d] }
  | _ => none }
def MetaSealsWrongFalsely : Prop := metaSealsRow.holds Tryd.pinned (OpenSpec.ofChange metaSealsWrong)

/-- 'replicalaw05.MetaUnseals': WHATEVER THE INPUT: true; the input reads as it did. -/
def metaUnsealsSpec : ChangeSpec := { name := "metaUnseals", fn := fun _ => fun
  | [d] => { results := [.lit (.bool true)], args := [d] }
  | _ => none }
def metaUnsealsRow : OpenClaim := { program := "ytjcinelcocmpnaadoor", sum := "8d26282cacc07d930343aa7cfebee0fc88681ee12222bd5ac354558410d66a9c", func := "replica/replicalaw05.MetaUnseals", spec := "metaUnseals", unfollowed := true, recurses := true, named := ["replica/digest.start", "replica/digest.rounds", "replica/replicaref01.begin", "replica/replicaref01.round"], apart := false, laid := [("replica/digest.rounds", laid_replica_digest_rounds), ("replica/digest.start", laid_replica_digest_start), ("replica/replicaref01.begin", laid_replica_replicaref01_begin), ("replica/replicaref01.round", laid_replica_replicaref01_round)] }
def MetaUnsealsSaid : Prop := metaUnsealsRow.holds Tryd.pinned (OpenSpec.ofChange metaUnsealsSpec)

/-- ITS FALSE NEIGHBOUR: 'it returns false'. Refute it at one input. -/
def metaUnsealsWrong : ChangeSpec := { name := "metaUnseals", fn := fun _ => fun
  | [d] => { results := [.lit (.bool false)], args := [d] }
  | _ => none }
def MetaUnsealsWrongFalsely : Prop := metaUnsealsRow.holds Tryd.pinned (OpenSpec.ofChange metaUnsealsWrong)

/-- 'replicalaw05.MetaChooses': WHATEVER THE INPUT: true; the input reads as it did. -/
def metaChoosesSpec : ChangeSpec := { name := "metaChooses", fn := fun _ => fun
  | [d1, d2] => { results := [.lit (.bool true)], args := [d1, d2] }
  | _ => none }
def metaChoosesRow : OpenClaim := { program := "ytjcinelcocmpnaadoor", sum := "8d26282cacc07d930343aa7cfebee0fc88681ee12222bd5ac354558410d66a9c", func := "replica/replicalaw05.MetaChooses", spec := "metaChooses", unfollowed := true, recurses := true, named := ["replica/digest.start", "replica/digest.rounds", "replica/replicaref01.begin", "replica/replicaref01.round"], apart := false, laid := [("replica/digest.rounds", laid_replica_digest_rounds), ("replica/digest.start", laid_replica_digest_start), ("replica/replicaref01.begin", laid_replica_replicaref01_begin), ("replica/replicaref01.round", laid_replica_replicaref01_round)] }
def MetaChoosesSaid : Prop := metaChoosesRow.holds Tryd.pinned (OpenSpec.ofChange metaChoosesSpec)

/-- ITS FALSE NEIGHBOUR: 'it returns false'. Refute it at one input. -/
def metaChoosesWrong : ChangeSpec := { name := "metaChooses", fn := fun _ => fun
  | [d1, d2] => { results := [.lit (.bool false)], args := [d1, d2] }
  | _ => none }
def MetaChoosesWrongFalsely : Prop := metaChoosesRow.holds Tryd.pinned (OpenSpec.ofChange metaChoosesWrong)

/-- 'replicalaw05.MetaRound': WHATEVER THE INPUT: true; the input reads as it did. -/
def metaRoundSpec : ChangeSpec := { name := "metaRound", fn := fun _ => fun
  | [d] => { results := [.lit (.bool true)], args := [d] }
  | _ => none }
def metaRoundRow : OpenClaim := { program := "ytjcinelcocmpnaadoor", sum := "8d26282cacc07d930343aa7cfebee0fc88681ee12222bd5ac354558410d66a9c", func := "replica/replicalaw05.MetaRound", spec := "metaRound", unfollowed := true, recurses := true, named := ["replica/digest.start", "replica/digest.rounds"], apart := false, laid := [("replica/digest.rounds", laid_replica_digest_rounds), ("replica/digest.start", laid_replica_digest_start)] }
def MetaRoundSaid : Prop := metaRoundRow.holds Tryd.pinned (OpenSpec.ofChange metaRoundSpec)

/-- ITS FALSE NEIGHBOUR: 'it returns false'. Refute it at one input. -/
def metaRoundWrong : ChangeSpec := { name := "metaRound", fn := fun _ => fun
  | [d] => { results := [.lit (.bool false)], args := [d] }
  | _ => none }
def MetaRoundWrongFalsely : Prop := metaRoundRow.holds Tryd.pinned (OpenSpec.ofChange metaRoundWrong)

/-- 'replicalaw05.MetaSealed': WHATEVER THE INPUT: true; the input reads as it did. -/
def metaSealedSpec : ChangeSpec := { name := "metaSealed", fn := fun _ => fun
  | [d1, d2] => { results := [.lit (.bool true)], args := [d1, d2] }
  | _ => none }
def metaSealedRow : OpenClaim := { program := "ytjcinelcocmpnaadoor", sum := "8d26282cacc07d930343aa7cfebee0fc88681ee12222bd5ac354558410d66a9c", func := "replica/replicalaw05.MetaSealed", spec := "metaSealed", unfollowed := true, recurses := true, named := ["replica/digest.start", "replica/digest.rounds"], apart := false, laid := [("replica/digest.rounds", laid_replica_digest_rounds), ("replica/digest.start", laid_replica_digest_start)] }
def MetaSealedSaid : Prop := metaSealedRow.holds Tryd.pinned (OpenSpec.ofChange metaSealedSpec)

/-- ITS FALSE NEIGHBOUR: 'it returns false'. Refute it at one input. -/
def metaSealedWrong : ChangeSpec := { name := "metaSealed", fn := fun _ => fun
  | [d1, d2] => { results := [.lit (.bool false)], args := [d1, d2] }
  | _ => none }
def MetaSealedWrongFalsely : Prop := metaSealedRow.holds Tryd.pinned (OpenSpec.ofChange metaSealedWrong)

/-- 'replicalaw05.MetaSpoilt': WHATEVER THE INPUT: true; the input reads as it did. -/
def metaSpoiltSpec : ChangeSpec := { name := "metaSpoilt", fn := fun _ => fun
  | [d1, d2, d3] => { results := [.lit (.bool true)], args := [d1, d2, d3] }
  | _ => none }
def metaSpoiltRow : OpenClaim := { program := "ytjcinelcocmpnaadoor", sum := "8d26282cacc07d930343aa7cfebee0fc88681ee12222bd5ac354558410d66a9c", func := "replica/replicalaw05.MetaSpoilt", spec := "metaSpoilt", unfollowed := true, recurses := true, named := ["replica/digest.start", "replica/digest.rounds"], apart := false, laid := [("replica/digest.rounds", laid_replica_digest_rounds), ("replica/digest.start", laid_replica_digest_start)] }
def MetaSpoiltSaid : Prop := metaSpoiltRow.holds Tryd.pinned (OpenSpec.ofChange metaSpoiltSpec)

/-- ITS FALSE NEIGHBOUR: 'it returns false'. Refute it at one input. -/
def metaSpoiltWrong : ChangeSpec := { name := "metaSpoilt", fn := fun _ => fun
  | [d1, d2, d3] => { results := [.lit (.bool false)], args := [d1, d2, d3] }
  | _ => none }
def MetaSpoiltWrongFalsely : Prop := metaSpoiltRow.holds Tryd.pinned (OpenSpec.ofChange metaSpoiltWrong)

/-- 'replicalaw05.MetaNewer': WHATEVER THE INPUT: true; the input reads as it did. -/
def metaNewerSpec : ChangeSpec := { name := "metaNewer", fn := fun _ => fun
  | [d1, d2, d3] => { results := [.lit (.bool true)], args := [d1, d2, d3] }
  | _ => none }
def metaNewerRow : OpenClaim := { program := "ytjcinelcocmpnaadoor", sum := "8d26282cacc07d930343aa7cfebee0fc88681ee12222bd5ac354558410d66a9c", func := "replica/replicalaw05.MetaNewer", spec := "metaNewer", unfollowed := true, recurses := true, named := ["replica/digest.start", "replica/digest.rounds"], apart := false, laid := [("replica/digest.rounds", laid_replica_digest_rounds), ("replica/digest.start", laid_replica_digest_start)] }
def MetaNewerSaid : Prop := metaNewerRow.holds Tryd.pinned (OpenSpec.ofChange metaNewerSpec)

/-- ITS FALSE NEIGHBOUR: 'it returns false'. Refute it at one input. -/
def metaNewerWrong : ChangeSpec := { name := "metaNewer", fn := fun _ => fun
  | [d1, d2, d3] => { results := [.lit (.bool false)], args := [d1, d2, d3] }
  | _ => none }
def MetaNewerWrongFalsely : Prop := metaNewerRow.holds Tryd.pinned (OpenSpec.ofChange metaNewerWrong)

/- THE SECOND FORM. 'bulk': how many values and letters a reading holds, each counted each time it is reached (what is shared counts as often as it is met; a slice's spare places count too). A statement '..UptoSaid' is the law's where the arguments, and the package variables that the reading takes, are together of bulk at most 1048576: NARROWER than '..Said'. Prove '..Said' where nothing that the law and all that it calls make is longer than what came in: it says more and counts as full. Else prove '..UptoSaid'. A law counts once. -/
mutual
def uptoBulk {H : Type} : DataW H → Nat
  | .lit (.string bytes) => bytes.length + 1
  | .lit _ => 1
  | .nil => 1
  | .ptr d => uptoBulk d + 1
  | .slice elems spare => uptoBulkAll elems + uptoBulkAll spare + 1
  | .agg parts => uptoBulkAll parts + 1
  | .iface _ d => uptoBulk d + 1
  | .map entries => uptoBulkEntries entries + 1
  | .held _ => 1
def uptoBulkAll {H : Type} : List (DataW H) → Nat
  | [] => 0
  | d :: r => uptoBulk d + uptoBulkAll r
def uptoBulkEntries {H : Type} : List (Lit × DataW H) → Nat
  | [] => 0
  | x :: r => uptoBulkEntry x + uptoBulkEntries r
def uptoBulkEntry {H : Type} : Lit × DataW H → Nat
  | (.string bytes, d) => bytes.length + uptoBulk d + 1
  | (_, d) => uptoBulk d + 1
 end
def uptoSmall : (H : Type) → List (DataW H) → Bool := fun _ ds => decide (uptoBulkAll ds ≤ 1048576)
def OpenSpec.upto (s : _root_.Go.ChangeSpec) : _root_.Go.OpenSpec := { _root_.Go.OpenSpec.ofChange s with cond := some uptoSmall }

/-- 'replicalaw05.MetaSeals', WHERE WHAT IT READS IS OF BULK AT MOST 1048576: true; the input reads as it did. -/
def metaSealsUptoRow : OpenClaim := { program := "ytjcinelcocmpnaadoor", sum := "8d26282cacc07d930343aa7cfebee0fc88681ee12222bd5ac354558410d66a9c", func := "replica/replicalaw05.MetaSeals", spec := "metaSeals", named := ["replica/digest.start", "replica/digest.rounds", "replica/replicaref01.begin", "replica/replicaref01.round"], apart := false, laid := [("replica/digest.rounds", laid_replica_digest_rounds), ("replica/digest.start", laid_replica_digest_start), ("replica/replicaref01.begin", laid_replica_replicaref01_begin), ("replica/replicaref01.round", laid_replica_replicaref01_round)], narrowed := true }
def MetaSealsUptoSaid : Prop := metaSealsUptoRow.holds Tryd.pinned (OpenSpec.upto metaSealsSpec)

/-- 'replicalaw05.MetaUnseals', WHERE WHAT IT READS IS OF BULK AT MOST 1048576: true; the input reads as it did. -/
def metaUnsealsUptoRow : OpenClaim := { program := "ytjcinelcocmpnaadoor", sum := "8d26282cacc07d930343aa7cfebee0fc88681ee12222bd5ac354558410d66a9c", func := "replica/replicalaw05.MetaUnseals", spec := "metaUnseals", unfollowed := true, recurses := true, named := ["replica/digest.start", "replica/digest.rounds", "replica/replicaref01.begin", "replica/replicaref01.round"], apart := false, laid := [("replica/digest.rounds", laid_replica_digest_rounds), ("replica/digest.start", laid_replica_digest_start), ("replica/replicaref01.begin", laid_replica_replicaref01_begin), ("replica/replicaref01.round", laid_replica_replicaref01_round)], narrowed := true }
def MetaUnsealsUptoSaid : Prop := metaUnsealsUptoRow.holds Tryd.pinned (OpenSpec.upto metaUnsealsSpec)

/-- 'replicalaw05.MetaChooses', WHERE WHAT IT READS IS OF BULK AT MOST 1048576: true; the input reads as it did. -/
def metaChoosesUptoRow : OpenClaim := { program := "ytjcinelcocmpnaadoor", sum := "8d26282cacc07d930343aa7cfebee0fc88681ee12222bd5ac354558410d66a9c", func := "replica/replicalaw05.MetaChooses", spec := "metaChooses", unfollowed := true, recurses := true, named := ["replica/digest.start", "replica/digest.rounds", "replica/replicaref01.begin", "replica/replicaref01.round"], apart := false, laid := [("replica/digest.rounds", laid_replica_digest_rounds), ("replica/digest.start", laid_replica_digest_start), ("replica/replicaref01.begin", laid_replica_replicaref01_begin), ("replica/replicaref01.round", laid_replica_replicaref01_round)], narrowed := true }
def MetaChoosesUptoSaid : Prop := metaChoosesUptoRow.holds Tryd.pinned (OpenSpec.upto metaChoosesSpec)

/-- 'replicalaw05.MetaRound', WHERE WHAT IT READS IS OF BULK AT MOST 1048576: true; the input reads as it did. -/
def metaRoundUptoRow : OpenClaim := { program := "ytjcinelcocmpnaadoor", sum := "8d26282cacc07d930343aa7cfebee0fc88681ee12222bd5ac354558410d66a9c", func := "replica/replicalaw05.MetaRound", spec := "metaRound", unfollowed := true, recurses := true, named := ["replica/digest.start", "replica/digest.rounds"], apart := false, laid := [("replica/digest.rounds", laid_replica_digest_rounds), ("replica/digest.start", laid_replica_digest_start)], narrowed := true }
def MetaRoundUptoSaid : Prop := metaRoundUptoRow.holds Tryd.pinned (OpenSpec.upto metaRoundSpec)

/-- 'replicalaw05.MetaSealed', WHERE WHAT IT READS IS OF BULK AT MOST 1048576: true; the input reads as it did. -/
def metaSealedUptoRow : OpenClaim := { program := "ytjcinelcocmpnaadoor", sum := "8d26282cacc07d930343aa7cfebee0fc88681ee12222bd5ac354558410d66a9c", func := "replica/replicalaw05.MetaSealed", spec := "metaSealed", unfollowed := true, recurses := true, named := ["replica/digest.start", "replica/digest.rounds"], apart := false, laid := [("replica/digest.rounds", laid_replica_digest_rounds), ("replica/digest.start", laid_replica_digest_start)], narrowed := true }
def MetaSealedUptoSaid : Prop := metaSealedUptoRow.holds Tryd.pinned (OpenSpec.upto metaSealedSpec)

/-- 'replicalaw05.MetaSpoilt', WHERE WHAT IT READS IS OF BULK AT MOST 1048576: true; the input reads as it did. -/
def metaSpoiltUptoRow : OpenClaim := { program := "ytjcinelcocmpnaadoor", sum := "8d26282cacc07d930343aa7cfebee0fc88681ee12222bd5ac354558410d66a9c", func := "replica/replicalaw05.MetaSpoilt", spec := "metaSpoilt", unfollowed := true, recurses := true, named := ["replica/digest.start", "replica/digest.rounds"], apart := false, laid := [("replica/digest.rounds", laid_replica_digest_rounds), ("replica/digest.start", laid_replica_digest_start)], narrowed := true }
def MetaSpoiltUptoSaid : Prop := metaSpoiltUptoRow.holds Tryd.pinned (OpenSpec.upto metaSpoiltSpec)

/-- 'replicalaw05.MetaNewer', WHERE WHAT IT READS IS OF BULK AT MOST 1048576: true; the input reads as it did. -/
def metaNewerUptoRow : OpenClaim := { program := "ytjcinelcocmpnaadoor", sum := "8d26282cacc07d930343aa7cfebee0fc88681ee12222bd5ac354558410d66a9c", func := "replica/replicalaw05.MetaNewer", spec := "metaNewer", unfollowed := true, recurses := true, named := ["replica/digest.start", "replica/digest.rounds"], apart := false, laid := [("replica/digest.rounds", laid_replica_digest_rounds), ("replica/digest.start", laid_replica_digest_start)], narrowed := true }
def MetaNewerUptoSaid : Prop := metaNewerUptoRow.holds Tryd.pinned (OpenSpec.upto metaNewerSpec)

end Rows
end Go.Proofs.YtjcinelcocmpnaaDoor
