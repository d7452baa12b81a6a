/- What the four listed tables give. -/
import Derived.Test.YtjcinelcocmpnaaDoorLaid
import Derived.Test.YtjcinelcocmpnaaDoorRefE
namespace Go.Proofs.YtjcinelcocmpnaaDoor
open Go.ChangeShapes Go.WideShapes Go.ChangeAt Go.RowKit
set_option linter.unusedVariables false
set_option linter.unusedSimpArgs false
theorem gBegin : Tryd.prog.globalNamed "replica/replicaref01.begin" = some 0 := by kernel_rfl
theorem gRound : Tryd.prog.globalNamed "replica/replicaref01.round" = some 1 := by kernel_rfl
theorem tBegin : (Tryd.prog.globals[0]?).map (·.type) = some 71 := by kernel_rfl
theorem tRound : (Tryd.prog.globals[1]?).map (·.type) = some 72 := by kernel_rfl
/-- The four tables, as listed. -/
theorem tab4_of {W : World} (h : laidMetH Tryd.prog [("replica/digest.rounds", Rows.laid_replica_digest_rounds), ("replica/digest.start", Rows.laid_replica_digest_start), ("replica/replicaref01.begin", Rows.laid_replica_replicaref01_begin), ("replica/replicaref01.round", Rows.laid_replica_replicaref01_round)] W) : Tab roundsK startS W ∧ TabR roundsL startS W := by
  rw [MakeChecks.laidMetH_plain _ _ _ (by kernel_rfl)] at h
  obtain ⟨ps, ⟨g0, t0, cs0, f0, p0, q0, hg0, ht0, hv0, hd0, ⟨g1, t1, cs1, f1, p1, q1, hg1, ht1, hv1, hd1, ⟨g2, t2, cs2, f2, p2, q2, hg2, ht2, hv2, hd2, ⟨g3, t3, cs3, f3, p3, q3, hg3, ht3, hv3, hd3, hq3, hp3⟩, hp2⟩, hp1⟩, hp0⟩, _, hpl⟩ := h
  obtain rfl := Option.some.inj (gRounds.symm.trans hg0)
  obtain rfl := Option.some.inj (gStart.symm.trans hg1)
  obtain rfl := Option.some.inj (gBegin.symm.trans hg2)
  obtain rfl := Option.some.inj (gRound.symm.trans hg3)
  obtain rfl := Option.some.inj (tRounds.symm.trans ht0)
  obtain rfl := Option.some.inj (tStart.symm.trans ht1)
  obtain rfl := Option.some.inj (tBegin.symm.trans ht2)
  obtain rfl := Option.some.inj (tRound.symm.trans ht3)
  have hd0' : DataW.trod (fun _ => ()) Tryd.prog W 0 (fun _ => true) false f0 72 cs0.toList = some (.agg (roundsL.map fun z => .lit (.int .u32 z)), p0) := hd0
  have hd1' : DataW.trod (fun _ => ()) Tryd.prog W 0 (fun _ => true) false f1 75 cs1.toList = some (.agg (startS.list.map fun z => .lit (.int .u32 z)), p1) := hd1
  have hd2' : DataW.trod (fun _ => ()) Tryd.prog W 0 (fun _ => true) false f2 71 cs2.toList = some (.agg (startS.list.map fun z => .lit (.int .u32 z)), p2) := hd2
  have hd3' : DataW.trod (fun _ => ()) Tryd.prog W 0 (fun _ => true) false f3 72 cs3.toList = some (.agg (roundsL.map fun z => .lit (.int .u32 z)), p3) := hd3
  have c0 : cs0.size = 64 := by
    obtain ⟨xs, m, _, _, hlen, _, _⟩ := DataW.trod_array Tryd.underlying72 hd0'
    rw [Array.length_toList] at hlen
    rw [hlen]; kernel_rfl
  have c1 : cs1.size = 8 := by
    obtain ⟨xs, m, _, _, hlen, _, _⟩ := DataW.trod_array Tryd.underlying75 hd1'
    rw [Array.length_toList] at hlen
    rw [hlen]; kernel_rfl
  have c2 : cs2.size = 8 := by
    obtain ⟨xs, m, _, _, hlen, _, _⟩ := DataW.trod_array Tryd.underlying71 hd2'
    rw [Array.length_toList] at hlen
    rw [hlen]; kernel_rfl
  have c3 : cs3.size = 64 := by
    obtain ⟨xs, m, _, _, hlen, _, _⟩ := DataW.trod_array Tryd.underlying72 hd3'
    rw [Array.length_toList] at hlen
    rw [hlen]; kernel_rfl
  have z0 := place_of (g := 3) (n := cs0.size) hpl (by omega) (fun x hx => by rw [hp0]; simp [hx])
  have z1 := place_of (g := 2) (n := cs1.size) hpl (by omega) (fun x hx => by rw [hp0, hp1]; simp [hx])
  have z2 := place_of (g := 0) (n := cs2.size) hpl (by omega) (fun x hx => by rw [hp0, hp1, hp2]; simp [hx])
  have z3 := place_of (g := 1) (n := cs3.size) hpl (by omega) (fun x hx => by rw [hp0, hp1, hp2, hp3]; simp [hx])
  exact ⟨⟨RowG.of (laid_arr (l := roundsL) hg0 hv0 Tryd.underlying72 Tryd.underlying25 (by kernel_rfl) (by kernel_rfl) hd0' z0), laid_arr (l := startS.list) hg1 hv1 Tryd.underlying75 Tryd.underlying25 (by kernel_rfl) (by kernel_rfl) hd1' z1⟩,
    laid_arr (l := startS.list) hg2 hv2 Tryd.underlying71 Tryd.underlying25 (by kernel_rfl) (by kernel_rfl) hd2' z2, laid_arr (l := roundsL) hg3 hv3 Tryd.underlying72 Tryd.underlying25 (by kernel_rfl) (by kernel_rfl) hd3' z3⟩
end Go.Proofs.YtjcinelcocmpnaaDoor
