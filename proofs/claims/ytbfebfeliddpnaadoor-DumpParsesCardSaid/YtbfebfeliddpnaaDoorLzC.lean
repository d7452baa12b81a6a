/- Two dumps held against each other; the book of the lists that were handed out. -/
import Derived.Test.YtbfebfeliddpnaaDoorLzB
import Derived.Outline
import Derived.Deep.CutRange
namespace Go.Proofs.YtbfebfeliddpnaaDoor
open Go.RowKit
open Go.ChangeMaps
set_option linter.unusedVariables false
set_option linter.unusedSimpArgs false
theorem rd_drewN {k : IntKind} {w : World} {v : Value} {xs : List Int} (h : Rd k w v xs) (m : Nat) : Rd k (w.drewN m) v xs := h
set_option maxHeartbeats 4000000 in
set_option maxRecDepth 100000 in
theorem sameDump_ok (w : World) (D : Dm) (va vc vb vd : Value) (hbl : D.bl ≤ 4096) (hsl : D.slots.length ≤ 16) (hA : Rd .u64 w va D.wl) (hC : Rd .i64 w vc D.slots) (hB : Rd .u64 w vb D.wl) (hD : Rd .i64 w vd D.slots) :
    Calls Tryd.prog 10 #[.agg (D.arr va vc), .agg (D.arr vb vd)] w (fun e w' => e = .returned (.bool true) ∧ Below w.heap.size w w') := by
  obtain ⟨Q, eQ⟩ : ∃ Q : Ending → World → Prop, Q = fun e w' => e = .returned (.bool true) ∧ Below w.heap.size w w' := ⟨_, rfl⟩
  rw [← eQ]
  have EQ := Lib.hid eQ
  clear eQ
  have hl1 : D.wl.length ≤ maxLen := by rw [D.wl_len]; unfold Dm.nw maxLen; omega
  have hl2 : D.slots.length ≤ maxLen := by unfold maxLen; omega
  unfold Dm.arr
  obtain ⟨sq, esq⟩ : ∃ x, x = D.sq := ⟨_, rfl⟩
  obtain ⟨bl, ebl⟩ : ∃ x, x = D.bl := ⟨_, rfl⟩
  obtain ⟨sz, esz⟩ : ∃ x, x = D.sz := ⟨_, rfl⟩
  obtain ⟨sl, esl⟩ : ∃ x, x = D.sl := ⟨_, rfl⟩
  obtain ⟨g0, eg0⟩ : ∃ x, x = D.g0 := ⟨_, rfl⟩
  obtain ⟨g1, eg1⟩ : ∃ x, x = D.g1 := ⟨_, rfl⟩
  obtain ⟨g2, eg2⟩ : ∃ x, x = D.g2 := ⟨_, rfl⟩
  obtain ⟨g3, eg3⟩ : ∃ x, x = D.g3 := ⟨_, rfl⟩
  obtain ⟨fl, efl⟩ : ∃ x, x = D.fl := ⟨_, rfl⟩
  obtain ⟨mr, emr⟩ : ∃ x, x = D.mr := ⟨_, rfl⟩
  rw [← esq, ← ebl, ← esz, ← esl, ← eg0, ← eg1, ← eg2, ← eg3, ← efl, ← emr]
  clear esq ebl esz esl eg0 eg1 eg2 eg3 efl emr
  obtain ⟨wa, ewa⟩ : ∃ x, x = w.alloc (.cells #[.int .u64 (sq : Nat), .int .i64 (bl : Nat), .int .i64 (sz : Nat), .int .i64 (sl : Nat), .int .u64 (g0 : Nat), .int .u64 (g1 : Nat), .int .u64 (g2 : Nat), .int .u64 (g3 : Nat), .int .u32 (fl : Nat), .int .i64 (mr : Nat), va, vc] 31) := ⟨_, rfl⟩
  obtain ⟨wb, ewb⟩ : ∃ x, x = wa.alloc (.cells #[.int .u64 (sq : Nat), .int .i64 (bl : Nat), .int .i64 (sz : Nat), .int .i64 (sl : Nat), .int .u64 (g0 : Nat), .int .u64 (g1 : Nat), .int .u64 (g2 : Nat), .int .u64 (g3 : Nat), .int .u32 (fl : Nat), .int .i64 (mr : Nat), vb, vd] 31) := ⟨_, rfl⟩
  have hb1 : Below w.heap.size w wb := by rw [ewb, ewa]; exact ((Below.refl _ _).alloc (Nat.le_refl _) _).alloc (by simp) _
  have hza : wa.heap.size = w.heap.size + 1 := by rw [ewa]; simp
  have b0 : Blk wb w.heap.size 31 #[.int .u64 (sq : Nat), .int .i64 (bl : Nat), .int .i64 (sz : Nat), .int .i64 (sl : Nat), .int .u64 (g0 : Nat), .int .u64 (g1 : Nat), .int .u64 (g2 : Nat), .int .u64 (g3 : Nat), .int .u32 (fl : Nat), .int .i64 (mr : Nat), va, vc] := by rw [ewb, ewa]; exact (Blk.new _ _ _).alloc _
  have b1 : Blk wb (w.heap.size + 1) 31 #[.int .u64 (sq : Nat), .int .i64 (bl : Nat), .int .i64 (sz : Nat), .int .i64 (sl : Nat), .int .u64 (g0 : Nat), .int .u64 (g1 : Nat), .int .u64 (g2 : Nat), .int .u64 (g3 : Nat), .int .u32 (fl : Nat), .int .i64 (mr : Nat), vb, vd] := by rw [ewb, ← hza]; exact Blk.new _ _ _
  have HS1 := Lib.hid (show Calls Tryd.prog 25 #[va, vb] wb (SameP wb true) from by have h9 := sameW_ok va vb D.wl D.wl wb (hA.below hb1) (hB.below hb1) hl1 hl1; rw [decide_eq_true rfl] at h9; exact h9)
  have HS2 := Lib.hid (fun m => show Calls Tryd.prog 26 #[vc, vd] (wb.drewN m) (SameP (wb.drewN m) true) from by have h9 := sameI_ok vc vd D.slots D.slots (wb.drewN m) (rd_drewN (hC.below hb1) m) (rd_drewN (hD.below hb1) m) hl2 hl2; rw [decide_eq_true rfl] at h9; exact h9)
  obtain ⟨A1, c1, rfl⟩ := hA.slice
  obtain ⟨A2, c2, rfl⟩ := hC.slice
  obtain ⟨A3, c3, rfl⟩ := hB.slice
  obtain ⟨A4, c4, rfl⟩ := hD.slice
  have HB1 := Lib.hid hb1
  have EWA := Lib.hid ewa
  have EWB := Lib.hid ewb
  have B0 := Lib.hid b0
  have BB1 := Lib.hid b1
  clear hA hB hC hD hb1 ewa ewb b0 b1 hza
  go_enter Tryd.func10, Tryd.ntmps10
  go_upto_region 1 with (fail)
  rw [← EWA.out, ← EWB.out]
  have x0 : wb.cell? ⟨w.heap.size, 0, none⟩ = some (.int .u64 (sq : Nat)) := B0.out.cell 0
  have y0 : wb.cell? ⟨w.heap.size + 1, 0, none⟩ = some (.int .u64 (sq : Nat)) := BB1.out.cell 0
  have x1 : wb.cell? ⟨w.heap.size, 1, none⟩ = some (.int .i64 (bl : Nat)) := B0.out.cell 1
  have y1 : wb.cell? ⟨w.heap.size + 1, 1, none⟩ = some (.int .i64 (bl : Nat)) := BB1.out.cell 1
  have x2 : wb.cell? ⟨w.heap.size, 2, none⟩ = some (.int .i64 (sz : Nat)) := B0.out.cell 2
  have y2 : wb.cell? ⟨w.heap.size + 1, 2, none⟩ = some (.int .i64 (sz : Nat)) := BB1.out.cell 2
  have x3 : wb.cell? ⟨w.heap.size, 3, none⟩ = some (.int .i64 (sl : Nat)) := B0.out.cell 3
  have y3 : wb.cell? ⟨w.heap.size + 1, 3, none⟩ = some (.int .i64 (sl : Nat)) := BB1.out.cell 3
  have x4 : wb.cell? ⟨w.heap.size, 4, none⟩ = some (.int .u64 (g0 : Nat)) := B0.out.cell 4
  have y4 : wb.cell? ⟨w.heap.size + 1, 4, none⟩ = some (.int .u64 (g0 : Nat)) := BB1.out.cell 4
  have x5 : wb.cell? ⟨w.heap.size, 5, none⟩ = some (.int .u64 (g1 : Nat)) := B0.out.cell 5
  have y5 : wb.cell? ⟨w.heap.size + 1, 5, none⟩ = some (.int .u64 (g1 : Nat)) := BB1.out.cell 5
  have x6 : wb.cell? ⟨w.heap.size, 6, none⟩ = some (.int .u64 (g2 : Nat)) := B0.out.cell 6
  have y6 : wb.cell? ⟨w.heap.size + 1, 6, none⟩ = some (.int .u64 (g2 : Nat)) := BB1.out.cell 6
  have x7 : wb.cell? ⟨w.heap.size, 7, none⟩ = some (.int .u64 (g3 : Nat)) := B0.out.cell 7
  have y7 : wb.cell? ⟨w.heap.size + 1, 7, none⟩ = some (.int .u64 (g3 : Nat)) := BB1.out.cell 7
  have x8 : wb.cell? ⟨w.heap.size, 8, none⟩ = some (.int .u32 (fl : Nat)) := B0.out.cell 8
  have y8 : wb.cell? ⟨w.heap.size + 1, 8, none⟩ = some (.int .u32 (fl : Nat)) := BB1.out.cell 8
  have x9 : wb.cell? ⟨w.heap.size, 9, none⟩ = some (.int .i64 (mr : Nat)) := B0.out.cell 9
  have y9 : wb.cell? ⟨w.heap.size + 1, 9, none⟩ = some (.int .i64 (mr : Nat)) := BB1.out.cell 9
  have x10 : wb.cell? ⟨w.heap.size, 10, none⟩ = some (.slice A1 D.wl.length c1) := B0.out.cell 10
  have x11 : wb.cell? ⟨w.heap.size, 11, none⟩ = some (.slice A2 D.slots.length c2) := B0.out.cell 11
  have y10 : wb.cell? ⟨w.heap.size + 1, 10, none⟩ = some (.slice A3 D.wl.length c3) := BB1.out.cell 10
  have y11 : wb.cell? ⟨w.heap.size + 1, 11, none⟩ = some (.slice A4 D.slots.length c4) := BB1.out.cell 11
  obtain ⟨n1, en1⟩ : ∃ x, x = D.wl.length := ⟨_, rfl⟩
  obtain ⟨n2, en2⟩ : ∃ x, x = D.slots.length := ⟨_, rfl⟩
  rw [← en1] at HS1 x10 y10
  rw [← en2] at HS2 x11 y11
  clear en1 en2
  go_wp2_with fail
  refine HS1.out.mono ?_
  rintro e w1 ⟨m1, rfl, rfl⟩
  go_wp2_with fail
  refine (HS2.out m1).mono ?_
  rintro e w2 ⟨m2, rfl, rfl⟩
  have HF := Lib.hid (fun m => show Q (.returned (.bool true)) (wb.drewN m) by rw [EQ.out]; exact ⟨rfl, below_drewN HB1.out _⟩)
  go_wp2_with fail
  first | exact HF.out _ | (go_ret; exact HF.out _)
end Go.Proofs.YtbfebfeliddpnaaDoor
