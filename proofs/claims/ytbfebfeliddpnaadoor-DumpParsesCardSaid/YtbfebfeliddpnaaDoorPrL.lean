/- What Parse defers. -/
import Derived.Test.YtbfebfeliddpnaaDoorPrK
import Derived.Defers
import Derived.Recover
import Derived.Laws.Pointers
import Derived.Outline
namespace Go.Proofs.YtbfebfeliddpnaaDoor
open Go.RowKit
open Go.ChangeMaps
set_option linter.unusedVariables false
set_option linter.unusedSimpArgs false
theorem Blk.setsFar {w : World} {g R : Nat} {T : TypeId} {cs : Array Value} (h : Blk w g T cs) (hR : g ≠ R) : ∀ (vs : List Value) (i : Nat), Blk (Go.Proofs.YtbfebfeliddpnaaDoor.sets w R i vs) g T cs
  | [], _ => h
  | v :: vs, i => Blk.setsFar (h.far (p := ⟨R, i, Option.none⟩) hR v) hR vs (i + 1)
theorem parse_idle (p q u : Value) (w : World) :
    CallsD Tryd.prog 23 #[p, q, u] .returning w fun e u' w' => e = .returned (.tuple #[]) ∧ u' = .returning ∧ w' = w := by
  refine callsD_of_wpS Tryd.func23 rfl fun c₀ cs hu => ?_
  apply wpS_seq
  apply wpS_region
  simp [wpOpsS, go_sem, recoverD, hu, Tryd.ntmps23, Exit.thenS]
  apply wpS_seq
  apply wpS_region
  simp [wpOpsS, go_sem, Exit.thenS]
  refine wpS_cond (t := false) (by simp [Act.eval, Array.replicate]) ?_
  simp only [Bool.false_eq_true, if_false]
  refine wpS_of_wp (wp_skip ?_)
  cases c₀
  simp_all [bodyPostS, results, Tryd.results23]
theorem assert_run (p : Int) (w : World) : (Instr.typeAssert (.iface 61 (.int .i64 p)) 20 61 true).run Tryd.prog w = .ok (.tuple #[.int .i64 p, .bool true]) w := by kernel_rfl
theorem build_run (w : World) : (Instr.build 31 #[]).run Tryd.prog w = .ok (.agg #[.int .u64 0, .int .i64 0, .int .i64 0, .int .i64 0, .int .u64 0, .int .u64 0, .int .u64 0, .int .u64 0, .int .u32 0, .int .i64 0, .slice none 0 0, .slice none 0 0]) w := by kernel_rfl
set_option maxHeartbeats 1000000 in
set_option maxRecDepth 100000 in
theorem parse_caught (g0 g1 g2 : Nat) (p : Nat) (w : World) (h0 : Blk w g0 31 zDump) (h1 : Blk w g1 3 #[.int .i64 0]) (h2 : Blk w g2 32 #[.int .i64 0]) (n01 : g0 ≠ g1) (n02 : g0 ≠ g2) (n12 : g1 ≠ g2) :
    CallsD Tryd.prog 23 #[.pointer (some ⟨g0, 0, none⟩), .pointer (some ⟨g1, 0, none⟩), .pointer (some ⟨g2, 0, none⟩)] (.panicking ([{ v := .iface 61 (.int .i64 (p : Nat)), recovered := false }])) w fun e u' w' =>
      e = .returned (.tuple #[]) ∧ u' = .panicking [{ v := .iface 61 (.int .i64 (p : Nat)), recovered := true }] ∧ Blk w' g0 31 zDump ∧ Blk w' g1 3 #[.int .i64 (p : Nat)] ∧ Blk w' g2 32 #[.int .i64 191] ∧ OnlyP (fun b => b = g0 ∨ b = g1 ∨ b = g2) w w' := by
  refine callsD_of_wpS Tryd.func23 rfl fun c₀ cs hu => ?_
  apply wpS_seq
  apply wpS_region
  simp [wpOpsS, go_sem, recoverD, hu, Tryd.ntmps23, Exit.thenS]
  apply wpS_seq
  apply wpS_region
  simp [wpOpsS, go_sem, Exit.thenS]
  refine wpS_cond (t := true) (by simp [Act.eval, Array.replicate]) ?_
  simp only [if_true]
  apply wpS_seq
  apply wpS_region
  simp [wpOpsS, go_sem, Exit.thenS, assert_run]
  apply wpS_seq
  apply wpS_seq
  apply wpS_region
  simp [wpOpsS, go_sem, Exit.thenS]
  refine wpS_cond (t := false) (by simp [Act.eval, Array.replicate]) ?_
  simp only [Bool.false_eq_true, if_false]
  refine wpS_of_wp (wp_skip ?_)
  simp only [Exit.thenS]
  apply wpS_region
  have d0 := h0.cell 0
  have f0 := h0.free 0
  have d1 := h0.cell 1
  have f1 := h0.free 1
  have d2 := h0.cell 2
  have f2 := h0.free 2
  have d3 := h0.cell 3
  have f3 := h0.free 3
  have d4 := h0.cell 4
  have f4 := h0.free 4
  have d5 := h0.cell 5
  have f5 := h0.free 5
  have d6 := h0.cell 6
  have f6 := h0.free 6
  have d7 := h0.cell 7
  have f7 := h0.free 7
  have d8 := h0.cell 8
  have f8 := h0.free 8
  have d9 := h0.cell 9
  have f9 := h0.free 9
  have d10 := h0.cell 10
  have f10 := h0.free 10
  have d11 := h0.cell 11
  have f11 := h0.free 11
  have d12 := h1.cell 0
  have f12 := h1.free 0
  have d13 := h2.cell 0
  have f13 := h2.free 0
  simp only [zDump, List.getElem?_toArray, List.getElem?_cons_zero, List.getElem?_cons_succ] at d0 d1 d2 d3 d4 d5 d6 d7 d8 d9 d10 d11 d12 d13
  simp [wpOpsS, go_sem, build_run, d0, d1, d2, d3, d4, d5, d6, d7, d8, d9, d10, d11, d12, d13, f0, f1, f2, f3, f4, f5, f6, f7, f8, f9, f10, f11, f12, f13, n01, n02, n12, Ne.symm n01, Ne.symm n02, Ne.symm n12, bodyPostS, results, Tryd.results23]
  refine ⟨?_, ?_, ?_, ?_⟩
  · exact ((h0.sets _ _ _ _ _ _ _ _ _ _ _ _).far n01 _).far n02 _
  · exact ((h1.setsFar (fun e => n01 e.symm) [_, _, _, _, _, _, _, _, _, _, _, _] 0).set 0 _).far n12 _
  · exact (((h2.setsFar (fun e => n02 e.symm) [_, _, _, _, _, _, _, _, _, _, _, _] 0).far (fun e => n12 e.symm) _).set 0 _)
  · exact ((OnlyP.sets (.inl (.inl rfl)) [_, _, _, _, _, _, _, _, _, _, _, _] 0 _ (OnlyP.refl _ _)).set (p := ⟨g1, 0, none⟩) (.inl (.inr (.inl rfl))) _).set (p := ⟨g2, 0, none⟩) (.inl (.inr (.inr rfl))) _
end Go.Proofs.YtbfebfeliddpnaaDoor
