/- The deferred closure of Unseal. -/
import Derived.Test.YtgehbfnfhjpjbaaDoorSupG
import Derived.Recover
namespace Go.Proofs.YtgehbfnfhjpjbaaDoor
open Go.RowKit
set_option linter.unusedVariables false
set_option linter.unusedSimpArgs false
/-- Ten stores into a block of ten cells. -/
theorem Blk.set10 {w : World} {g : Nat} {t : TypeId} {s : Sup} (h : Blk w g t s.arr) (v0 v1 v2 v3 v4 v5 v6 v7 v8 v9 : Value) : Blk ((((((((((w.setCell ⟨g, 0, none⟩ v0).setCell ⟨g, 1, none⟩ v1).setCell ⟨g, 2, none⟩ v2).setCell ⟨g, 3, none⟩ v3).setCell ⟨g, 4, none⟩ v4).setCell ⟨g, 5, none⟩ v5).setCell ⟨g, 6, none⟩ v6).setCell ⟨g, 7, none⟩ v7).setCell ⟨g, 8, none⟩ v8).setCell ⟨g, 9, none⟩ v9) g t #[v0, v1, v2, v3, v4, v5, v6, v7, v8, v9] := by
  have := ((((((((((h.set 0 v0).set 1 v1).set 2 v2).set 3 v3).set 4 v4).set 5 v5).set 6 v6).set 7 v7).set 8 v8).set 9 v9)
  simpa [Sup.arr] using this
theorem Blk.far10 {w : World} {g k : Nat} {t : TypeId} {cs : Array Value} (h : Blk w k t cs) (hn : k ≠ g) (v0 v1 v2 v3 v4 v5 v6 v7 v8 v9 : Value) : Blk ((((((((((w.setCell ⟨g, 0, none⟩ v0).setCell ⟨g, 1, none⟩ v1).setCell ⟨g, 2, none⟩ v2).setCell ⟨g, 3, none⟩ v3).setCell ⟨g, 4, none⟩ v4).setCell ⟨g, 5, none⟩ v5).setCell ⟨g, 6, none⟩ v6).setCell ⟨g, 7, none⟩ v7).setCell ⟨g, 8, none⟩ v8).setCell ⟨g, 9, none⟩ v9) k t cs := ((((((((((h.far (p := ⟨g, 0, none⟩) hn v0).far (p := ⟨g, 1, none⟩) hn v1).far (p := ⟨g, 2, none⟩) hn v2).far (p := ⟨g, 3, none⟩) hn v3).far (p := ⟨g, 4, none⟩) hn v4).far (p := ⟨g, 5, none⟩) hn v5).far (p := ⟨g, 6, none⟩) hn v6).far (p := ⟨g, 7, none⟩) hn v7).far (p := ⟨g, 8, none⟩) hn v8).far (p := ⟨g, 9, none⟩) hn v9)
theorem Only.set10 {bs : List Nat} {W w : World} {g : Nat} (h : Only bs W w) (hg : g ∈ bs) (v0 v1 v2 v3 v4 v5 v6 v7 v8 v9 : Value) : Only bs W ((((((((((w.setCell ⟨g, 0, none⟩ v0).setCell ⟨g, 1, none⟩ v1).setCell ⟨g, 2, none⟩ v2).setCell ⟨g, 3, none⟩ v3).setCell ⟨g, 4, none⟩ v4).setCell ⟨g, 5, none⟩ v5).setCell ⟨g, 6, none⟩ v6).setCell ⟨g, 7, none⟩ v7).setCell ⟨g, 8, none⟩ v8).setCell ⟨g, 9, none⟩ v9) := ((((((((((h.set (p := ⟨g, 0, none⟩) hg v0).set (p := ⟨g, 1, none⟩) hg v1).set (p := ⟨g, 2, none⟩) hg v2).set (p := ⟨g, 3, none⟩) hg v3).set (p := ⟨g, 4, none⟩) hg v4).set (p := ⟨g, 5, none⟩) hg v5).set (p := ⟨g, 6, none⟩) hg v6).set (p := ⟨g, 7, none⟩) hg v7).set (p := ⟨g, 8, none⟩) hg v8).set (p := ⟨g, 9, none⟩) hg v9)
set_option maxHeartbeats 2000000 in
set_option maxRecDepth 100000 in
theorem catch_panicking (H2 H3 : Nat) (s : Sup) (x : Int) (u : TypeId) (pv : Value) (older : List PanicEntry) (w : World) (hne : H2 ≠ H3) (h2 : Blk w H2 27 s.arr) (h3 : Blk w H3 32 #[.int .i64 x]) :
    CallsD Tryd.prog 29 #[.pointer (some ⟨H2, 0, none⟩), .pointer (some ⟨H3, 0, none⟩)] (.panicking ({ v := .iface u pv, recovered := false } :: older)) w fun e u' w' =>
      e = .returned (.tuple #[]) ∧ u' = .panicking ({ v := .iface u pv, recovered := true } :: older) ∧ Blk w' H2 27 sup0.arr ∧ Blk w' H3 32 #[.int .i64 53] ∧ Only [H2, H3] w w' := by
  have d0 := h2.cell 0
  have d1 := h2.cell 1
  have d2 := h2.cell 2
  have d3 := h2.cell 3
  have d4 := h2.cell 4
  have d5 := h2.cell 5
  have d6 := h2.cell 6
  have d7 := h2.cell 7
  have d8 := h2.cell 8
  have d9 := h2.cell 9
  have e0 := h3.cell 0
  have r0 := h2.free 0
  have r1 := h2.free 1
  have r2 := h2.free 2
  have r3 := h2.free 3
  have r4 := h2.free 4
  have r5 := h2.free 5
  have r6 := h2.free 6
  have r7 := h2.free 7
  have r8 := h2.free 8
  have r9 := h2.free 9
  have q0 := h3.free 0
  simp only [Sup.arr, List.getElem?_toArray, List.getElem?_cons_zero, List.getElem?_cons_succ] at d0 d1 d2 d3 d4 d5 d6 d7 d8 d9 e0
  refine callsD_of_wpS Tryd.func29 rfl fun c₀ cs hu => ?_
  apply wpS_seq
  apply wpS_region
  simp [wpOpsS, go_sem, recoverD, hu, Tryd.ntmps29, Exit.thenS]
  refine wpS_cond (t := true) (by simp [Act.eval, Array.replicate]) ?_
  simp only [if_true]
  apply wpS_region
  simp [wpOpsS, go_sem, d0, d1, d2, d3, d4, d5, d6, d7, d8, d9, e0, r0, r1, r2, r3, r4, r5, r6, r7, r8, r9, q0, hne, Ne.symm hne, bodyPostS, results, Tryd.results29]
  refine ⟨(h2.set10 _ _ _ _ _ _ _ _ _ _).far hne _, (h3.far10 (Ne.symm hne) _ _ _ _ _ _ _ _ _ _).set 0 _, ((Only.refl _ _).set10 (by simp) _ _ _ _ _ _ _ _ _ _).set (by simp) _⟩
theorem catch_idle (p q : Value) (w : World) :
    CallsD Tryd.prog 29 #[p, q] .returning w fun e u' w' => e = .returned (.tuple #[]) ∧ u' = .returning ∧ w' = w := by
  refine callsD_of_wpS Tryd.func29 rfl fun c₀ cs hu => ?_
  apply wpS_seq
  apply wpS_region
  simp [wpOpsS, go_sem, recoverD, hu, Tryd.ntmps29, Exit.thenS]
  refine wpS_cond (t := false) (by simp [Act.eval, Array.replicate]) ?_
  simp only [Bool.false_eq_true, if_false]
  refine wpS_of_wp (wp_skip ?_)
  cases c₀
  simp_all [bodyPostS, results, Tryd.results29]
end Go.Proofs.YtgehbfnfhjpjbaaDoor
