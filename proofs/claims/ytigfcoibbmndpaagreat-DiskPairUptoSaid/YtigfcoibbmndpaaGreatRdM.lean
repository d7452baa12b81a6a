/- The reference's Counts. -/
import Derived.Test.YtigfcoibbmndpaaGreatRdL
import Derived.Outline
namespace Go.Proofs.YtigfcoibbmndpaaGreat
open Go.RowKit
open Go.ChangeMaps
set_option linter.unusedVariables false
set_option linter.unusedSimpArgs false
theorem rcnt_results (tmps : Array Value) (w : World) (g : Nat) (s : DSt) (hp : tmps.getD 2 undef = .pointer (some ⟨g, 0, none⟩)) (H2 : Blk w g 68 #[.int .i64 s.c0, .int .i64 s.c1, .int .i64 s.c2, .int .i64 s.c3]) : (results Tryz.f49 tmps).run Tryz.prog w = .ok (.agg #[.int .i64 s.c0, .int .i64 s.c1, .int .i64 s.c2, .int .i64 s.c3]) w := by
  have hp' : tmps[2]?.getD undef = .pointer (some ⟨g, 0, none⟩) := by simpa using hp
  have d0 := H2.cell 0
  have d1 := H2.cell 1
  have d2 := H2.cell 2
  have d3 := H2.cell 3
  simp only [List.getElem?_toArray, List.getElem?_cons_zero, List.getElem?_cons_succ] at d0 d1 d2 d3
  simp [results, Tryz.results49, hp', asAddr, go_sem, d0, d1, d2, d3]
set_option maxHeartbeats 1000000 in
set_option maxRecDepth 100000 in
theorem rcounts_ok (P : Nat → Prop) (w : World) (r : Nat) (s : DSt) (wh : Int) (n : Nat) (h : RRep P w r s wh n) :
    Calls Tryz.prog 49 #[.pointer (some ⟨r, 0, none⟩)] w fun e w' => e = .returned (.agg #[.int .i64 s.c0, .int .i64 s.c1, .int .i64 s.c2, .int .i64 s.c3]) ∧ Below w.heap.size w w' := by
  obtain ⟨Bm, Bs, cm, cs, vc, G, C, hx, _⟩ := h
  have ha := hx.blk.alloc (.cells #[.int .i64 0, .int .i64 0, .int .i64 0, .int .i64 0] 68)
  have c7 : (w.alloc (.cells #[.int .i64 0, .int .i64 0, .int .i64 0, .int .i64 0] 68)).cell? ⟨r, 7, none⟩ = some (.int .i64 s.c0) := ha.cell 7
  have c8 : (w.alloc (.cells #[.int .i64 0, .int .i64 0, .int .i64 0, .int .i64 0] 68)).cell? ⟨r, 8, none⟩ = some (.int .i64 s.c1) := ha.cell 8
  have c9 : (w.alloc (.cells #[.int .i64 0, .int .i64 0, .int .i64 0, .int .i64 0] 68)).cell? ⟨r, 9, none⟩ = some (.int .i64 s.c2) := ha.cell 9
  have c10 : (w.alloc (.cells #[.int .i64 0, .int .i64 0, .int .i64 0, .int .i64 0] 68)).cell? ⟨r, 10, none⟩ = some (.int .i64 s.c3) := ha.cell 10
  clear hx ha
  go_enter Tryz.func49, Tryz.ntmps49
  go_wp2_with fail
  exact bodyPost_ret (rcnt_results _ _ w.heap.size s rfl (Blk.new _ _ _)) rfl ⟨rfl, (Below.refl _ _).alloc (Nat.le_refl _) _⟩
end Go.Proofs.YtigfcoibbmndpaaGreat
