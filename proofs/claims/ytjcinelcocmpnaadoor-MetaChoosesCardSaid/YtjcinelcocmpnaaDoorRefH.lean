/- The document's superblock: super. -/
import Derived.Test.YtjcinelcocmpnaaDoorRefG
namespace Go.Proofs.YtjcinelcocmpnaaDoor
open Go.RowKit
set_option linter.unusedVariables false
set_option linter.unusedSimpArgs false
theorem rs_results (tmps : Array Value) (w : World) (g : Nat) (s : Sup) (hp : tmps.getD 2 undef = .pointer (some ⟨g, 0, none⟩)) (H2 : Blk w g 27 s.arr) : (results Tryd.f36 tmps).run Tryd.prog w = .ok (.agg s.arr) w := by
  have hp' : tmps[2]?.getD undef = .pointer (some ⟨g, 0, none⟩) := by simpa using hp
  have d0 := H2.cell 0
  have d1 := H2.cell 1
  have d2 := H2.cell 2
  have d3 := H2.cell 3
  have d4 := H2.cell 4
  have d5 := H2.cell 5
  have d6 := H2.cell 6
  have d7 := H2.cell 7
  have d8 := H2.cell 8
  have d9 := H2.cell 9
  simp only [Sup.arr, List.getElem?_toArray, List.getElem?_cons_zero, List.getElem?_cons_succ] at d0 d1 d2 d3 d4 d5 d6 d7 d8 d9
  simp [results, Tryd.results36, hp', asAddr, go_sem, d0, d1, d2, d3, d4, d5, d6, d7, d8, d9, Sup.arr]
set_option maxHeartbeats 2000000 in
set_option maxRecDepth 100000 in
theorem rsuper_ok (a0 a1 a2 a3 a4 a5 a6 a7 a8 a9 : Int) (w : World) (h1 : 0 ≤ a1 ∧ a1 < 4294967296) (h2 : 0 ≤ a2 ∧ a2 < 4294967296) (h3 : 0 ≤ a3 ∧ a3 < 4294967296) (h4 : 0 ≤ a4 ∧ a4 < 4294967296) (h9 : 0 ≤ a9 ∧ a9 < 4294967296) :
    Calls Tryd.prog 36 #[.agg #[.int .u64 a0, .int .u64 a1, .int .u64 a2, .int .u64 a3, .int .u64 a4, .int .u64 a5, .int .u64 a6, .int .u64 a7, .int .u64 a8, .int .u64 a9]] w fun e w' => e = .returned (.agg (Sup.arr ⟨a0, a1, a2, a3, a5, a6, a7, a8, a9, a4⟩)) ∧ Below w.heap.size w w' := by
  have b1 : IntKind.i64.wrap a1 = a1 := IntWalk.i64_in _ (by omega)
  have b2 : IntKind.i64.wrap a2 = a2 := IntWalk.i64_in _ (by omega)
  have b3 : IntKind.i64.wrap a3 = a3 := IntWalk.i64_in _ (by omega)
  have b4 : IntKind.i64.wrap a4 = a4 := IntWalk.i64_in _ (by omega)
  have b9 : IntKind.u32.wrap a9 = a9 := IntWalk.u32_in _ (by omega)
  go_enter Tryd.func36, Tryd.ntmps36
  go_wp2_with fail
  refine bodyPost_ret (rs_results _ _ (w.heap.size + 1) ⟨a0, a1, a2, a3, a5, a6, a7, a8, a9, a4⟩ rfl ?_) rfl ⟨rfl, ((((Below.refl _ _).alloc (Nat.le_refl _) _).alloc (by simp) _).alloc (by simp; omega) _)⟩
  exact (Blk.newAt _ _ _ _ (by simp)).alloc _
end Go.Proofs.YtjcinelcocmpnaaDoor
