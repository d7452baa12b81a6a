/- MetaSeals: of any superblock the program's Seal answers what the document's Seal answers, byte by byte, asked twice and of another, and no answer shares memory with one that came ahead of it. Condition: the two tables of digest and the two of the document's digest hold what their text lays (the card ties it). -/
import Derived.Test.YtjcinelcocmpnaaDoorRows
import Derived.Test.YtjcinelcocmpnaaDoorCards
import Derived.Test.YtjcinelcocmpnaaDoorTie
import Derived.Test.YtjcinelcocmpnaaDoorSelW
import Derived.Test.YtjcinelcocmpnaaDoorLaidB
import Derived.Test.YtjcinelcocmpnaaDoorRowI
import Derived.WalkKit
import Derived.ProofKit
import Derived.OpenShut
import Derived.ShutString
import Derived.ChangeOld
import Derived.Below
import Derived.SizedLaws
import Derived.Carry
import Derived.Deep.Matrix
import Derived.LaidMore
import Derived.Stop.Joined
import Derived.SevenTiedAt
namespace Go.Proofs.YtjcinelcocmpnaaDoor.metaSeals
open Go.ChangeShapes Go.WideShapes Go.ChangeAt Go.RowKit Go.Deep
open Go.ChangeMaps (open_string shut_string)
set_option linter.unusedVariables false
set_option linter.unusedSimpArgs false
theorem own : ownKnob Tryd.prog.godebug = none := by kernel_rfl
theorem laidOut : laidOutB Tryd.prog = true := by kernel_rfl
set_option maxRecDepth 100000 in
theorem door_met (os : Os) (args : Array Value) : laidMetH Tryd.prog [("replica/digest.rounds", Rows.laid_replica_digest_rounds), ("replica/digest.start", Rows.laid_replica_digest_start), ("replica/replicaref01.begin", Rows.laid_replica_replicaref01_begin), ("replica/replicaref01.round", Rows.laid_replica_replicaref01_round)] ((World.doorLaid Tryd.prog 2000 os).forCall (fun _ _ => 0) ⟨#[], args, []⟩).memory :=
  laidMetH_of_parts3 (fuel := 8) (laidMet_of_run' 8 (by kernel_rfl) (by kernel_rfl)) (by kernel_rfl) (by kernel_rfl)
set_option maxRecDepth 100000 in
theorem lifted (os : Os) (started : os.Started) (H : Type) (enc : TypeId × Value → H) :
    ReturnsInHanded {} Tryd.checked os 3 .any (fun w args => (Rows.metaSealsSpec.pre enc Tryd.prog Tryd.f3 [] false w args ∧ laidMetH Tryd.prog [("replica/digest.rounds", Rows.laid_replica_digest_rounds), ("replica/digest.start", Rows.laid_replica_digest_start), ("replica/replicaref01.begin", Rows.laid_replica_replicaref01_begin), ("replica/replicaref01.round", Rows.laid_replica_replicaref01_round)] w) ∧ sizedMet enc Tryd.prog Tryd.f3 (OpenSpec.ofChange Rows.metaSealsSpec) false w args)
      (Rows.metaSealsSpec.post enc Tryd.prog Tryd.f3 false true false false) := by
  refine returnsInHanded_of_change_and (C := Tryd.checked) (X := fun w _ => laidMetH Tryd.prog [("replica/digest.rounds", Rows.laid_replica_digest_rounds), ("replica/digest.start", Rows.laid_replica_digest_start), ("replica/replicaref01.begin", Rows.laid_replica_replicaref01_begin), ("replica/replicaref01.round", Rows.laid_replica_replicaref01_round)] w) (fun _ _ _ hh h => h.of_heap hh) own started (by kernel_rfl) Tryd.func3
    (ChangeSpec.witness_shaped (enc := enc) (C := Tryd.checked) (os := os) (X := fun w _ => laidMetH Tryd.prog [("replica/digest.rounds", Rows.laid_replica_digest_rounds), ("replica/digest.start", Rows.laid_replica_digest_start), ("replica/replicaref01.begin", Rows.laid_replica_replicaref01_begin), ("replica/replicaref01.round", Rows.laid_replica_replicaref01_round)] w) false (World.doorLaid Tryd.prog 2000 os) #[.agg sup0.arr] 8 rfl (World.shaped_of_RefB (by kernel_rfl) (by kernel_rfl)) (by kernel_rfl) (by kernel_rfl) (by kernel_rfl) (door_met os _)) ?_
  intro W base args ds gs before hval0 hW _ hsz0 hL _
  have hsz : (DataW.weightsEach Tryd.prog (Tryd.f3.params.toList ++ Rows.metaSealsSpec.plain.varTypes Tryd.prog) (ds ++ gs)).all (· ≤ reachBytes) = true := hsz0
  have hval : ∀ (j : Nat) t v, Tryd.f3.params[j]? = some t → args[j]? = some v → Value.okWide Tryd.prog W .any base t v := hval0
  have hW' := hW
  obtain ⟨p, q, hA0, hV, rfl, hfz, hnd⟩ := hW
  have hA : DataW.TrodAll enc Tryd.prog W 0 (fun _ => true) true Tryd.f3.params.toList args.toList ds p := hA0
  rw [Tryd.params3] at hA hval hsz
  obtain ⟨v0, vs0, d0, ds0, p0, q0, hargs, rfl, rfl, h0, r0⟩ := trodAll_cons hA
  obtain ⟨rfl, rfl, rfl⟩ := trodAll_nil r0
  obtain rfl : args = #[v0] := by cases args; simp_all
  obtain ⟨rfl, rfl⟩ := trodVars_none hV
  have m0 := h0
  have lt0 : ∀ x ∈ p0, x.block < W.heap.size := by obtain ⟨m, hm⟩ := m0; exact DataW.trod_lt m _ _ _ hm
  obtain ⟨s0, rfl, k0⟩ := open_super (hval 0 27 v0 rfl rfl) h0
  clear hA0 hval0 hsz0 hsz
  refine (seals_law roundsL startS s0 W (tab4_of hL).1 (tab4_of hL).2 (by kernel_rfl) k0).mono fun e W' ⟨he, bel⟩ => ?_
  subst he
  exact ⟨_, rfl, _, _, _, [], _, [], hW', trodAll_mk1 (shut_bool Tryd.underlying4 _), (trodAll_cons_mk (Below.trod laidOut (by kernel_rfl) (of_decide_eq_true (by kernel_rfl)) m0 bel lt0) trodAll_mk0), rfl, bel.frame _, fun h => by cases h⟩
theorem over : Rows.MetaSealsSaid :=
  OpenClaim.holds_of_wide 3 Tryd.f3 rfl rfl rfl rfl rfl rfl rfl ⟨rfl, rfl, rfl, rfl, rfl⟩ rfl rfl rfl rfl rfl (by kernel_rfl) Tryd.func3 (by kernel_rfl)
    (of_decide_eq_true (by kernel_rfl)) (by unfold Func.isWrapper; first | (rw [if_pos (by decide +kernel)]; kernel_rfl) | (rw [if_neg (by decide +kernel)]; exact ⟨rfl, rfl⟩))
    (fun os started H enc _ => lifted os started H enc)
theorem proved : Rows.MetaSealsCardSaid :=
  Claim7.holds_tied_plain_at .later [] [.data, .data, .data, .data] true Rows.metaSealsCard.stood.harness Rows.metaSealsCard.stood.looks
    over (fun _ h => by cases h) (by kernel_rfl) (fun _ h => by cases h) metaSeals_row_tie rfl ⟨rfl, rfl⟩ (by kernel_rfl) rfl
    (fun f fn hf hfn => by
      obtain rfl : f = 3 := Option.some.inj ((show Tryd.prog.funcNamed "replica/replicalaw05.MetaSeals" = some 3 by kernel_rfl).symm.trans hf) |>.symm
      obtain rfl : fn = Tryd.f3 := (Option.some.inj (Tryd.func3.symm.trans hfn)).symm
      exact ⟨by kernel_rfl, fun j t ht => by
        rw [Tryd.params3] at ht
        have hm : t ∈ [27] := by simpa using Array.mem_of_getElem? ht
        have hall : ([27].all fun u => !Tryd.prog.wantsStandIn u) = true := by kernel_rfl
        exact (show Tryd.prog.wantsStandIn t = false by simpa using List.all_eq_true.1 hall t hm)⟩)
    (by kernel_rfl)
#print axioms proved
end Go.Proofs.YtjcinelcocmpnaaDoor.metaSeals
namespace Go.Proofs.YtjcinelcocmpnaaDoor
theorem metaSeals_holds : Rows.MetaSealsCardSaid := metaSeals.proved
end Go.Proofs.YtjcinelcocmpnaaDoor
