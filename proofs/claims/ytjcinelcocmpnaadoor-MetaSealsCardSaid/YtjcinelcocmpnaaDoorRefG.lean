/- The document's superblock: fields, super. -/
import Derived.Test.YtjcinelcocmpnaaDoorRefF
namespace Go.Proofs.YtjcinelcocmpnaaDoor
open Go.RowKit
set_option linter.unusedVariables false
set_option linter.unusedSimpArgs false
/-- The ten numbers in their order. -/
def Sup.nums (s : Sup) : List Int := [s.sq, s.bl, s.sz, s.sl, s.mr, s.cu, s.bm, s.o1, s.o2, s.fl]
theorem fd_results (tmps : Array Value) (w : World) (g : Nat) (l : List Int) (a0 a1 a2 a3 a4 a5 a6 a7 a8 a9 : Int) (hp : tmps.getD 2 undef = .pointer (some ⟨g, 0, none⟩)) (h : Blk w g 61 #[.int .u64 a0, .int .u64 a1, .int .u64 a2, .int .u64 a3, .int .u64 a4, .int .u64 a5, .int .u64 a6, .int .u64 a7, .int .u64 a8, .int .u64 a9]) :
    (results Tryd.f41 tmps).run Tryd.prog w = .ok (.agg #[.int .u64 a0, .int .u64 a1, .int .u64 a2, .int .u64 a3, .int .u64 a4, .int .u64 a5, .int .u64 a6, .int .u64 a7, .int .u64 a8, .int .u64 a9]) w := by
  have hp' : tmps[2]?.getD undef = .pointer (some ⟨g, 0, none⟩) := by simpa using hp
  have d0 := h.cell 0
  have d1 := h.cell 1
  have d2 := h.cell 2
  have d3 := h.cell 3
  have d4 := h.cell 4
  have d5 := h.cell 5
  have d6 := h.cell 6
  have d7 := h.cell 7
  have d8 := h.cell 8
  have d9 := h.cell 9
  simp only [List.getElem?_toArray, List.getElem?_cons_zero, List.getElem?_cons_succ] at d0 d1 d2 d3 d4 d5 d6 d7 d8 d9
  simp [results, Tryd.results41, hp', asAddr, go_sem, d0, d1, d2, d3, d4, d5, d6, d7, d8, d9]
set_option maxHeartbeats 2000000 in
set_option maxRecDepth 100000 in
theorem fields_ok (s : Sup) (w : World) (hf : Fits s) (hk : Kinds s) :
    Calls Tryd.prog 41 #[.agg s.arr] w fun e w' => e = .returned (.agg (s.nums.map (Value.int .u64)).toArray) ∧ Below w.heap.size w w' := by
  obtain ⟨sq, bl, sz, sl, cu, bm, o1, o2, fl, mr⟩ := s
  obtain ⟨a1, a2, a3, a4, a5, a6, a7, a8, a9, a10⟩ := hf
  obtain ⟨⟨k1, k2⟩, ⟨k3, k4⟩, ⟨k5, k6⟩, ⟨k7, k8⟩, ⟨k9, k10⟩, k11, k12⟩ := hk
  unfold okSize at a5
  simp only at a1 a2 a3 a4 a5 a6 a7 a8 a9 a10 k1 k2 k3 k4 k5 k6 k7 k8 k9 k10 k11 k12
  have b1 : IntKind.u64.wrap bl = bl := IntWalk.u64_in _ (by omega)
  have b2 : IntKind.u64.wrap sz = sz := IntWalk.u64_in _ (by omega)
  have b3 : IntKind.u64.wrap sl = sl := IntWalk.u64_in _ (by omega)
  have b4 : IntKind.u64.wrap mr = mr := IntWalk.u64_in _ (by omega)
  have b5 : IntKind.u64.wrap fl = fl := IntWalk.u64_in _ (by omega)
  clear a5
  simp only [Sup.arr]
  go_enter Tryd.func41, Tryd.ntmps41
  go_wp2_with fail
  refine bodyPost_ret (fd_results _ _ (w.heap.size + 1) [] sq bl sz sl mr cu bm o1 o2 fl rfl ?_) rfl ⟨rfl, (((Below.refl _ _).alloc (Nat.le_refl _) _).alloc (by simp) _)⟩
  exact Blk.newAt _ _ _ _ (by simp)
end Go.Proofs.YtjcinelcocmpnaaDoor
