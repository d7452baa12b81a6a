/- Bytes in new memory: fresh. -/
import Derived.Test.YtgehbfnfhjpjbaaDoorDisA
import Derived.Laws.CopyOwn
import Derived.Lib.SliceRun
namespace Go.Proofs.YtgehbfnfhjpjbaaDoor
open Go.RowKit
set_option linter.unusedVariables false
set_option linter.unusedSimpArgs false
theorem splice_all (zs : List Int) (i : Nat) (hi : i < zs.length) : (splice (List.replicate zs.length (Value.int .u8 0)) 0 (zs.map (Value.int .u8)))[i]? = some (.int .u8 (zs.getD i 0)) := by
  unfold splice
  rw [List.take_zero, List.nil_append, Nat.zero_add, List.length_map, List.getElem?_append, List.length_map, if_pos hi, List.getElem?_map, List.getD_eq_getElem?_getD, List.getElem?_eq_getElem hi]; rfl
def CpQ (w : World) (zs : List Int) (e : Ending) (w' : World) : Prop :=
  e = .returned (.slice (some ⟨w.heap.size, 0, none⟩) zs.length zs.length) ∧ Below w.heap.size w w' ∧ RowA .u8 5 w' w.heap.size zs.length (fun i => zs.getD i 0)
set_option maxHeartbeats 1000000 in
set_option maxRecDepth 100000 in
theorem fresh_ok (v : Value) (zs : List Int) (w : World) (hr : Rd .u8 w v zs) (hm : zs.length ≤ 140737488351232) :
    Calls Tryd.prog 23 #[v] w (CpQ w zs) := by
  have hmk := fun w => run_make_row' (P := Tryd.prog) 29 5 (.int .u8 0) 1 Tryd.underlying29 hd_info5 rfl .i64 .i64 zs.length (by omega) (by omega) w
  obtain ⟨A, c, rfl⟩ := hr.slice
  obtain ⟨L, eL⟩ : ∃ L, L = zs.length := ⟨_, rfl⟩
  have HR := Lib.hid hr
  have HL := Lib.hid eL
  rw [← eL] at hmk hm ⊢
  clear hr eL
  go_enter Tryd.func23, Tryd.ntmps23
  go_wp2_with (with_reducible refine wpList_copy_splice rfl (.tmp 7) (.tmp 8) 29 29 rfl 5 Tryd.underlying29 hd_size5 _ _ _ _ _ _ rfl rfl w.heap.size 0 (List.replicate L (.int .u8 0)) 5 ?c1 (zs.map (Value.int .u8)) ?c2 ?c3 ?c4 ?c5 w.heap.size w ?c6 (Nat.le_refl _) ?_)
  case c1 =>
    have : madeCells #[Value.int .u8 0] L = (List.replicate L (Value.int .u8 0)).toArray := made_repl _ _
    rw [← this]
    exact Blk.new _ _ _
  case c2 => rw [List.length_map, ← HL.out]; exact (Nat.min_eq_left (by omega)).symm
  case c3 =>
    intro hp
    rcases HR.out with ⟨h0, _⟩ | ⟨b, off, c', e, g1, g2, g3, g4⟩
    · rw [h0] at hp; simp at hp
    · simp only [Value.slice.injEq] at e
      refine ⟨_, e.1, fun j x hj => ?_⟩
      have hj' : j < zs.length := (List.getElem?_eq_some_iff.1 hj).1
      rw [Go.WideShapes.add_plain, World.cell?_alloc_lt _ _ _ g3, g4 j hj', List.getD_eq_getElem?_getD, hj]
      rfl
  case c4 => have := HL.out; simp; omega
  case c5 => intro x hx; simp only [List.mem_map] at hx; obtain ⟨y, _, rfl⟩ := hx; rfl
  case c6 => exact (Below.refl _ _).alloc (Nat.le_refl _) _
  intro w1 hh hb
  have hrow : RowA .u8 5 w1 w.heap.size L (fun i => zs.getD i 0) := by
    refine ⟨_, hh.out, ?_, fun i hi => ?_⟩
    · have := HL.out; simp [splice]; omega
    · have := splice_all zs i (by have := HL.out; omega)
      rw [← HL.out] at this
      simpa using this
  have HROW := Lib.hid hrow
  have HB := Lib.hid hb
  clear hrow hh hb
  go_wp2_with fail
  go_ret
  refine ⟨?_, HB.out, ?_⟩
  · rw [HL.out]; rfl
  · have := HROW.out; rw [HL.out] at this; exact this
end Go.Proofs.YtgehbfnfhjpjbaaDoor
