/- Joined of the texts LxE LxF. -/
import Derived.Test.YtigfcoibbmndpaaGreatMxA
import Derived.Outline
import Derived.Deep.RegionLaw
import Derived.Deep.CutRange
/- One step of a kind that tells. Printed by wip/tools/gen_lx.py. -/
namespace Go.Proofs.YtigfcoibbmndpaaGreat
open Go.RowKit
open Go.ChangeMaps
set_option linter.unusedVariables false
set_option linter.unusedSimpArgs false
set_option maxHeartbeats 1000000 in
set_option maxRecDepth 100000 in
theorem geometry_ok (O : Nat → Prop) (w : World) (d : Nat) (s : DSt) (h : DRep O w d s) :
    Calls Tryz.prog 50 #[.pointer (some ⟨d, 0, none⟩)] w fun e w' => e = .returned (.tuple #[.int .i64 s.nb, .int .i64 s.sz]) ∧ ∃ m, w' = w.drewN m := by
  obtain ⟨m, c, hx⟩ := blkD h
  have c0 : w.cell? ⟨d, 0, none⟩ = some (.int .i64 s.nb) := hx.cell 0
  have c1 : w.cell? ⟨d, 1, none⟩ = some (.int .i64 s.sz) := hx.cell 1
  clear hx h
  go_enter Tryz.func50, Tryz.ntmps50
  go_wp2_with fail
  (try (go_quiet (fail); go_wp2_with fail))
  go_ret2
  exact ⟨rfl, by first | exact ⟨0, rfl⟩ | exact ⟨_, rfl⟩⟩
set_option maxHeartbeats 4000000 in
set_option maxRecDepth 100000 in
theorem tell_7 (X : Nat → Prop) (w : World) (q d : Nat) (s : DSt) (O : Nat → Prop) (r : Nat) (P : Nat → Prop) (wh : Int) (n : Nat) (k : BkV) (nB : Nat) (o : OpV) (h : PairA X w q d s O r s P wh n k nB) (hr : RdN X w o.dv o.data) (hI1 : I64 o.blk) (hI2 : I64 o.cnt) (hb : BytesL o.data) (hl : o.data.length ≤ 1048576) (hn : n ≤ 10000000000) (hk : o.kind = 7) :
    Calls Tryz.prog 24 #[.pointer (some ⟨q, 0, none⟩), o.agg] w (StepQ X w q (n + 8193)) := by
  obtain ⟨Q, eQ⟩ : ∃ Q, Q = StepQ X w q (n + 8193) := ⟨_, rfl⟩
  rw [← eQ]
  have EQ := Lib.hid eQ
  obtain ⟨kind, blk, cnt, dv, data⟩ := o
  dsimp only at hk hr hI1 hI2 hb hl
  subst hk
  obtain ⟨A, cp, rfl⟩ := hr.1.slice
  simp only [OpV.agg]
  obtain ⟨L, eL⟩ : ∃ L, L = data.length := ⟨_, rfl⟩
  rw [← eL] at hl hr ⊢
  have HR := Lib.hid hr
  have EL := Lib.hid eL
  have HBY := Lib.hid hb
  have H0 := Lib.hid h
  have HXW := Lib.hid h.lts
  clear eQ hr h hb eL
  go_enter Tryz.func24, Tryz.ntmps24
  go_upto_region 1 with (fail)
  obtain ⟨wb, ewb⟩ : ∃ wb, wb = w.alloc (.cells #[.int .i64 7, .int .i64 blk, .int .i64 cnt, .slice A L cp] 40) := ⟨_, rfl⟩
  have hbw : Below w.heap.size w wb := by rw [ewb]; exact (Below.refl _ _).alloc (Nat.le_refl _) _
  obtain ⟨B0, eB0⟩ : ∃ B0, B0 = w.heap.size := ⟨_, rfl⟩
  have hbox : Blk wb B0 40 #[.int .i64 7, .int .i64 blk, .int .i64 cnt, .slice A L cp] := by rw [ewb, eB0]; exact Blk.new _ _ _
  have hx0 : ¬ X B0 := fun h => by have := HXW.out B0 h; omega
  have hm1 := (H0.out.keep hbw).start
  rw [← ewb, ← eB0]
  have HBW := Lib.hid hbw
  have HBOX := Lib.hid hbox
  have HX0 := Lib.hid hx0
  have b0 : wb.cell? ⟨B0, 0, none⟩ = some (.int .i64 7) := hbox.cell 0
  have b1 : wb.cell? ⟨B0, 1, none⟩ = some (.int .i64 blk) := hbox.cell 1
  have b2 : wb.cell? ⟨B0, 2, none⟩ = some (.int .i64 cnt) := hbox.cell 2
  have b3 : wb.cell? ⟨B0, 3, none⟩ = some (.slice A L cp) := hbox.cell 3
  obtain ⟨c0, c1, c2⟩ := hm1.cells
  have HM1 := Lib.hid hm1
  clear hbw hbox hx0 hm1 ewb eB0
  obtain ⟨W, eW⟩ : ∃ W, W = waitN s blk := ⟨_, rfl⟩
  have EW := Lib.hid eW
  clear eW
  go_wp2_with fail
  obtain ⟨wd, ewd⟩ : ∃ W, W = wb.drew := ⟨_, rfl⟩
  have hmwd := HM1.out.drewN 1
  rw [show wb.drewN 1 = wd from ewd.symm] at hmwd
  go_still_tail 6, (by kernel_rfl)
  change wpList _ _ _ _ _ wb.drew
  rw [← ewd]
  clear ewd b0 b1 b2 b3 c0 c1 c2
  obtain ⟨c0, c1, c2⟩ := hmwd.cells
  have hbx := hmwd.box HBOX.out HX0.out
  have b0 := hbx.cell 0
  have b1 := hbx.cell 1
  have b2 := hbx.cell 2
  have b3 := hbx.cell 3
  simp only [List.getElem?_toArray, List.getElem?_cons_zero, List.getElem?_cons_succ] at b0 b1 b2 b3
  have HMwd := Lib.hid hmwd
  clear hbx hmwd
  have hw1 := Lib.hid (waiting_ok O wd d s blk hI1 HMwd.out.db)
  rw [← EW.out] at hw1
  go_wp2_with fail
  refine hw1.out.mono ?_
  rintro e w2 ⟨rfl, rfl⟩
  go_wp2_with fail
  obtain ⟨we, ewe⟩ : ∃ W, W = wd.drew := ⟨_, rfl⟩
  have hmwe := HMwd.out.drewN 1
  rw [show wd.drewN 1 = we from ewe.symm] at hmwe
  go_still_tail 6, (by kernel_rfl)
  change wpList _ _ _ _ _ wd.drew
  rw [← ewe]
  clear ewe b0 b1 b2 b3 c0 c1 c2
  obtain ⟨c0, c1, c2⟩ := hmwe.cells
  have hbx := hmwe.box HBOX.out HX0.out
  have b0 := hbx.cell 0
  have b1 := hbx.cell 1
  have b2 := hbx.cell 2
  have b3 := hbx.cell 3
  simp only [List.getElem?_toArray, List.getElem?_cons_zero, List.getElem?_cons_succ] at b0 b1 b2 b3
  have HMwe := Lib.hid hmwe
  clear hbx hmwe
  have hw2 := Lib.hid (rwaiting_ok P we r s wh blk n HMwe.out.rb (by omega))
  rw [← EW.out] at hw2
  go_wp2_with fail
  refine hw2.out.mono ?_
  rintro e w2 ⟨rfl, hb2⟩
  have HM2 := Lib.hid (HMwe.out.keep hb2)
  clear hb2 hw1 hw2
  have HF := Lib.hid (show Q (.returned (.bool true)) w2 by rw [EQ.out]; exact HM2.out.out HBW.out (by omega))
  go_wp2_with fail
  first | exact HF.out | (go_ret; exact HF.out)
set_option maxHeartbeats 4000000 in
set_option maxRecDepth 100000 in
theorem tell_12 (X : Nat → Prop) (w : World) (q d : Nat) (s : DSt) (O : Nat → Prop) (r : Nat) (P : Nat → Prop) (wh : Int) (n : Nat) (k : BkV) (nB : Nat) (o : OpV) (h : PairA X w q d s O r s P wh n k nB) (hr : RdN X w o.dv o.data) (hI1 : I64 o.blk) (hI2 : I64 o.cnt) (hb : BytesL o.data) (hl : o.data.length ≤ 1048576) (hn : n ≤ 10000000000) (hk : o.kind = 12) :
    Calls Tryz.prog 24 #[.pointer (some ⟨q, 0, none⟩), o.agg] w (StepQ X w q (n + 8193)) := by
  obtain ⟨Q, eQ⟩ : ∃ Q, Q = StepQ X w q (n + 8193) := ⟨_, rfl⟩
  rw [← eQ]
  have EQ := Lib.hid eQ
  obtain ⟨kind, blk, cnt, dv, data⟩ := o
  dsimp only at hk hr hI1 hI2 hb hl
  subst hk
  obtain ⟨A, cp, rfl⟩ := hr.1.slice
  simp only [OpV.agg]
  obtain ⟨L, eL⟩ : ∃ L, L = data.length := ⟨_, rfl⟩
  rw [← eL] at hl hr ⊢
  have HR := Lib.hid hr
  have EL := Lib.hid eL
  have HBY := Lib.hid hb
  have H0 := Lib.hid h
  have HXW := Lib.hid h.lts
  clear eQ hr h hb eL
  go_enter Tryz.func24, Tryz.ntmps24
  go_upto_region 1 with (fail)
  obtain ⟨wb, ewb⟩ : ∃ wb, wb = w.alloc (.cells #[.int .i64 12, .int .i64 blk, .int .i64 cnt, .slice A L cp] 40) := ⟨_, rfl⟩
  have hbw : Below w.heap.size w wb := by rw [ewb]; exact (Below.refl _ _).alloc (Nat.le_refl _) _
  obtain ⟨B0, eB0⟩ : ∃ B0, B0 = w.heap.size := ⟨_, rfl⟩
  have hbox : Blk wb B0 40 #[.int .i64 12, .int .i64 blk, .int .i64 cnt, .slice A L cp] := by rw [ewb, eB0]; exact Blk.new _ _ _
  have hx0 : ¬ X B0 := fun h => by have := HXW.out B0 h; omega
  have hm1 := (H0.out.keep hbw).start
  rw [← ewb, ← eB0]
  have HBW := Lib.hid hbw
  have HBOX := Lib.hid hbox
  have HX0 := Lib.hid hx0
  have b0 : wb.cell? ⟨B0, 0, none⟩ = some (.int .i64 12) := hbox.cell 0
  have b1 : wb.cell? ⟨B0, 1, none⟩ = some (.int .i64 blk) := hbox.cell 1
  have b2 : wb.cell? ⟨B0, 2, none⟩ = some (.int .i64 cnt) := hbox.cell 2
  have b3 : wb.cell? ⟨B0, 3, none⟩ = some (.slice A L cp) := hbox.cell 3
  obtain ⟨c0, c1, c2⟩ := hm1.cells
  have HM1 := Lib.hid hm1
  clear hbw hbox hx0 hm1 ewb eB0
  obtain ⟨m, c, hbd⟩ := blkD HM1.out.db
  have hw1 := Lib.hid (on_ok wb d m c s hbd)
  have hw2 := Lib.hid (ron_ok P wb r s wh n HM1.out.rb)
  obtain ⟨W, eW⟩ : ∃ W, W = !s.off := ⟨_, rfl⟩
  rw [← eW] at hw1 hw2
  clear eW hbd
  go_wp2_with fail
  refine hw1.out.mono ?_
  rintro e w2 ⟨rfl, rfl⟩
  have HF := Lib.hid (show Q (.returned (.bool true)) wb by rw [EQ.out]; exact HM1.out.out HBW.out (by omega))
  go_wp2_with fail
  refine hw2.out.mono ?_
  rintro e w2 ⟨rfl, rfl⟩
  clear hw1 hw2
  go_wp2_with fail
  first | exact HF.out | (go_ret; exact HF.out)
set_option maxHeartbeats 4000000 in
set_option maxRecDepth 100000 in
theorem tell_14 (X : Nat → Prop) (w : World) (q d : Nat) (s : DSt) (O : Nat → Prop) (r : Nat) (P : Nat → Prop) (wh : Int) (n : Nat) (k : BkV) (nB : Nat) (o : OpV) (h : PairA X w q d s O r s P wh n k nB) (hr : RdN X w o.dv o.data) (hI1 : I64 o.blk) (hI2 : I64 o.cnt) (hb : BytesL o.data) (hl : o.data.length ≤ 1048576) (hn : n ≤ 10000000000) (hk : o.kind = 14) :
    Calls Tryz.prog 24 #[.pointer (some ⟨q, 0, none⟩), o.agg] w (StepQ X w q (n + 8193)) := by
  obtain ⟨Q, eQ⟩ : ∃ Q, Q = StepQ X w q (n + 8193) := ⟨_, rfl⟩
  rw [← eQ]
  have EQ := Lib.hid eQ
  obtain ⟨kind, blk, cnt, dv, data⟩ := o
  dsimp only at hk hr hI1 hI2 hb hl
  subst hk
  obtain ⟨A, cp, rfl⟩ := hr.1.slice
  simp only [OpV.agg]
  obtain ⟨L, eL⟩ : ∃ L, L = data.length := ⟨_, rfl⟩
  rw [← eL] at hl hr ⊢
  have HR := Lib.hid hr
  have EL := Lib.hid eL
  have HBY := Lib.hid hb
  have H0 := Lib.hid h
  have HXW := Lib.hid h.lts
  clear eQ hr h hb eL
  go_enter Tryz.func24, Tryz.ntmps24
  go_upto_region 1 with (fail)
  obtain ⟨wb, ewb⟩ : ∃ wb, wb = w.alloc (.cells #[.int .i64 14, .int .i64 blk, .int .i64 cnt, .slice A L cp] 40) := ⟨_, rfl⟩
  have hbw : Below w.heap.size w wb := by rw [ewb]; exact (Below.refl _ _).alloc (Nat.le_refl _) _
  obtain ⟨B0, eB0⟩ : ∃ B0, B0 = w.heap.size := ⟨_, rfl⟩
  have hbox : Blk wb B0 40 #[.int .i64 14, .int .i64 blk, .int .i64 cnt, .slice A L cp] := by rw [ewb, eB0]; exact Blk.new _ _ _
  have hx0 : ¬ X B0 := fun h => by have := HXW.out B0 h; omega
  have hm1 := (H0.out.keep hbw).start
  rw [← ewb, ← eB0]
  have HBW := Lib.hid hbw
  have HBOX := Lib.hid hbox
  have HX0 := Lib.hid hx0
  have b0 : wb.cell? ⟨B0, 0, none⟩ = some (.int .i64 14) := hbox.cell 0
  have b1 : wb.cell? ⟨B0, 1, none⟩ = some (.int .i64 blk) := hbox.cell 1
  have b2 : wb.cell? ⟨B0, 2, none⟩ = some (.int .i64 cnt) := hbox.cell 2
  have b3 : wb.cell? ⟨B0, 3, none⟩ = some (.slice A L cp) := hbox.cell 3
  obtain ⟨c0, c1, c2⟩ := hm1.cells
  have HM1 := Lib.hid hm1
  clear hbw hbox hx0 hm1 ewb eB0
  obtain ⟨m, c, hbd⟩ := blkD HM1.out.db
  have hw1 := Lib.hid (counts_ok wb d m c s hbd)
  obtain ⟨C0, eC0⟩ : ∃ x, x = s.c0 := ⟨_, rfl⟩
  obtain ⟨C1, eC1⟩ : ∃ x, x = s.c1 := ⟨_, rfl⟩
  obtain ⟨C2, eC2⟩ : ∃ x, x = s.c2 := ⟨_, rfl⟩
  obtain ⟨C3, eC3⟩ : ∃ x, x = s.c3 := ⟨_, rfl⟩
  have hw2 : Hid (∀ W, RRep P W r s wh n → Calls Tryz.prog 49 #[.pointer (some ⟨r, 0, none⟩)] W fun e w' => e = .returned (.agg #[.int .i64 C0, .int .i64 C1, .int .i64 C2, .int .i64 C3]) ∧ Below W.heap.size W w') := Lib.hid (fun W hW => by rw [eC0, eC1, eC2, eC3]; exact rcounts_ok P W r s wh n hW)
  rw [← eC0, ← eC1, ← eC2, ← eC3] at hw1
  clear hbd eC0 eC1 eC2 eC3
  go_wp2_with fail
  refine hw1.out.mono ?_
  rintro e w2 ⟨rfl, hb2⟩
  have hm2 := HM1.out.keep hb2
  obtain ⟨c0, c1, c2⟩ := hm2.cells
  have hbx := hm2.box HBOX.out HX0.out
  have b0 := hbx.cell 0
  have b1 := hbx.cell 1
  have b2 := hbx.cell 2
  have b3 := hbx.cell 3
  simp only [List.getElem?_toArray, List.getElem?_cons_zero, List.getElem?_cons_succ] at b0 b1 b2 b3
  have HM2 := Lib.hid hm2
  clear hbx hm2
  clear hb2 hw1
  go_upto_region 11 with (fail)
  obtain ⟨w3, e3⟩ : ∃ x, x = w2.alloc (.cells #[.int .i64 C0, .int .i64 C1, .int .i64 C2, .int .i64 C3] 68) := ⟨_, rfl⟩
  obtain ⟨B8, eB8⟩ : ∃ x, x = w2.heap.size := ⟨_, rfl⟩
  have h8 : Blk w3 B8 68 #[.int .i64 C0, .int .i64 C1, .int .i64 C2, .int .i64 C3] := by rw [e3, eB8]; exact Blk.new _ _ _
  have hm3 := HM2.out.keep (w2 := w3) (by rw [e3]; exact (Below.refl _ _).alloc (Nat.le_refl _) _)
  rw [← e3, ← eB8]
  clear b0 b1 b2 b3 c0 c1 c2 e3 eB8
  obtain ⟨c0, c1, c2⟩ := hm3.cells
  have hbx := hm3.box HBOX.out HX0.out
  have b0 := hbx.cell 0
  have b1 := hbx.cell 1
  have b2 := hbx.cell 2
  have b3 := hbx.cell 3
  simp only [List.getElem?_toArray, List.getElem?_cons_zero, List.getElem?_cons_succ] at b0 b1 b2 b3
  have HM3 := Lib.hid hm3
  clear hbx hm3
  have hw3 := hw2.out w3 HM3.out.rb
  have HW3 := Lib.hid hw3
  have H8 := Lib.hid h8
  clear hw3 hw2 h8
  go_wp2_with fail
  refine HW3.out.mono ?_
  rintro e w4 ⟨rfl, hb4⟩
  have hm4 := HM3.out.keep hb4
  have h8' := H8.out.below hb4 H8.out.lt
  have H84 := Lib.hid h8'
  have HM4 := Lib.hid hm4
  clear hb4 hm4 h8' HW3 b0 b1 b2 b3 c0 c1 c2
  go_upto_region 12 with (fail)
  obtain ⟨w5, e5⟩ : ∃ x, x = w4.alloc (.cells #[.int .i64 C0, .int .i64 C1, .int .i64 C2, .int .i64 C3] 68) := ⟨_, rfl⟩
  obtain ⟨B9, eB9⟩ : ∃ x, x = w4.heap.size := ⟨_, rfl⟩
  have h9 : Blk w5 B9 68 #[.int .i64 C0, .int .i64 C1, .int .i64 C2, .int .i64 C3] := by rw [e5, eB9]; exact Blk.new _ _ _
  have h85 : Blk w5 B8 68 #[.int .i64 C0, .int .i64 C1, .int .i64 C2, .int .i64 C3] := by rw [e5]; exact H84.out.alloc _
  have hm5 := HM4.out.keep (w2 := w5) (by rw [e5]; exact (Below.refl _ _).alloc (Nat.le_refl _) _)
  rw [← e5, ← eB9]
  have a0 : w5.cell? ⟨B8, 0, none⟩ = some (.int .i64 C0) := h85.cell 0
  have a1 : w5.cell? ⟨B8, 1, none⟩ = some (.int .i64 C1) := h85.cell 1
  have a2 : w5.cell? ⟨B8, 2, none⟩ = some (.int .i64 C2) := h85.cell 2
  have a3 : w5.cell? ⟨B8, 3, none⟩ = some (.int .i64 C3) := h85.cell 3
  have z0 : w5.cell? ⟨B9, 0, none⟩ = some (.int .i64 C0) := h9.cell 0
  have z1 : w5.cell? ⟨B9, 1, none⟩ = some (.int .i64 C1) := h9.cell 1
  have z2 : w5.cell? ⟨B9, 2, none⟩ = some (.int .i64 C2) := h9.cell 2
  have z3 : w5.cell? ⟨B9, 3, none⟩ = some (.int .i64 C3) := h9.cell 3
  have HF := Lib.hid (show ∀ m, Q (.returned (.bool true)) (w5.drewN m) from fun m => by rw [EQ.out]; exact (hm5.drewN m).out HBW.out (by omega))
  have HF0 := Lib.hid (HF.out 0)
  clear e5 eB9 h9 h85 hm5
  go_wp2_with fail
  (try (go_quiet (fail); go_wp2_with fail))
  first | exact HF0.out | exact HF.out _ | (go_ret; exact HF0.out) | (go_ret; exact HF.out _)
set_option maxHeartbeats 4000000 in
set_option maxRecDepth 100000 in
theorem tell_15 (X : Nat → Prop) (w : World) (q d : Nat) (s : DSt) (O : Nat → Prop) (r : Nat) (P : Nat → Prop) (wh : Int) (n : Nat) (k : BkV) (nB : Nat) (o : OpV) (h : PairA X w q d s O r s P wh n k nB) (hr : RdN X w o.dv o.data) (hI1 : I64 o.blk) (hI2 : I64 o.cnt) (hb : BytesL o.data) (hl : o.data.length ≤ 1048576) (hn : n ≤ 10000000000) (hk : o.kind = 15) :
    Calls Tryz.prog 24 #[.pointer (some ⟨q, 0, none⟩), o.agg] w (StepQ X w q (n + 8193)) := by
  obtain ⟨Q, eQ⟩ : ∃ Q, Q = StepQ X w q (n + 8193) := ⟨_, rfl⟩
  rw [← eQ]
  have EQ := Lib.hid eQ
  obtain ⟨kind, blk, cnt, dv, data⟩ := o
  dsimp only at hk hr hI1 hI2 hb hl
  subst hk
  obtain ⟨A, cp, rfl⟩ := hr.1.slice
  simp only [OpV.agg]
  obtain ⟨L, eL⟩ : ∃ L, L = data.length := ⟨_, rfl⟩
  rw [← eL] at hl hr ⊢
  have HR := Lib.hid hr
  have EL := Lib.hid eL
  have HBY := Lib.hid hb
  have H0 := Lib.hid h
  have HXW := Lib.hid h.lts
  clear eQ hr h hb eL
  go_enter Tryz.func24, Tryz.ntmps24
  go_upto_region 1 with (fail)
  obtain ⟨wb, ewb⟩ : ∃ wb, wb = w.alloc (.cells #[.int .i64 15, .int .i64 blk, .int .i64 cnt, .slice A L cp] 40) := ⟨_, rfl⟩
  have hbw : Below w.heap.size w wb := by rw [ewb]; exact (Below.refl _ _).alloc (Nat.le_refl _) _
  obtain ⟨B0, eB0⟩ : ∃ B0, B0 = w.heap.size := ⟨_, rfl⟩
  have hbox : Blk wb B0 40 #[.int .i64 15, .int .i64 blk, .int .i64 cnt, .slice A L cp] := by rw [ewb, eB0]; exact Blk.new _ _ _
  have hx0 : ¬ X B0 := fun h => by have := HXW.out B0 h; omega
  have hm1 := (H0.out.keep hbw).start
  rw [← ewb, ← eB0]
  have HBW := Lib.hid hbw
  have HBOX := Lib.hid hbox
  have HX0 := Lib.hid hx0
  have b0 : wb.cell? ⟨B0, 0, none⟩ = some (.int .i64 15) := hbox.cell 0
  have b1 : wb.cell? ⟨B0, 1, none⟩ = some (.int .i64 blk) := hbox.cell 1
  have b2 : wb.cell? ⟨B0, 2, none⟩ = some (.int .i64 cnt) := hbox.cell 2
  have b3 : wb.cell? ⟨B0, 3, none⟩ = some (.slice A L cp) := hbox.cell 3
  obtain ⟨c0, c1, c2⟩ := hm1.cells
  have HM1 := Lib.hid hm1
  clear hbw hbox hx0 hm1 ewb eB0
  have hw1 := Lib.hid (geometry_ok O wb d s HM1.out.db)
  obtain ⟨NB, eNB⟩ : ∃ x, x = s.nb := ⟨_, rfl⟩
  obtain ⟨SZ, eSZ⟩ : ∃ x, x = s.sz := ⟨_, rfl⟩
  have hw2 : Hid (∀ m, Calls Tryz.prog 51 #[.pointer (some ⟨r, 0, none⟩)] (wb.drewN m) fun e w' => e = .returned (.tuple #[.int .i64 NB, .int .i64 SZ]) ∧ ∃ m2, w' = (wb.drewN m).drewN m2) := Lib.hid (fun m => by rw [eNB, eSZ]; exact rgeometry_ok P (wb.drewN m) r s wh n (HM1.out.rb.drewN m))
  rw [← eNB, ← eSZ] at hw1
  clear eNB eSZ
  go_wp2_with fail
  refine hw1.out.mono ?_
  rintro e w2 ⟨rfl, m, rfl⟩
  go_wp2_with fail
  refine (hw2.out m).mono ?_
  rintro e w2 ⟨rfl, m2, rfl⟩
  have HF := Lib.hid (show ∀ m3, Q (.returned (.bool true)) (wb.drewN m3) from fun m3 => by rw [EQ.out]; exact (HM1.out.drewN m3).out HBW.out (by omega))
  have HF0 := Lib.hid (HF.out 0)
  clear hw1 hw2
  go_wp2_with fail
  (try (go_quiet (fail); go_wp2_with fail))
  first | exact HF0.out | exact HF.out _ | (go_ret; exact HF0.out) | (go_ret; exact HF.out _)
end Go.Proofs.YtigfcoibbmndpaaGreat
/- One step of a kind that answers a list. Printed by wip/tools/gen_lx.py. -/
namespace Go.Proofs.YtigfcoibbmndpaaGreat
open Go.RowKit
open Go.ChangeMaps
set_option linter.unusedVariables false
set_option linter.unusedSimpArgs false
theorem own_rd {k : IntKind} {w : World} {B : Nat} {e : TypeId} {v : Value} {l : List Int} (h : w.ownsRow B e 1 v l.length (l.map (Value.int k))) : Rd k w v l := by
  by_cases h0 : l.length = 0
  · obtain ⟨A, c, rfl⟩ := own1_form h
    exact .inl ⟨List.eq_nil_of_length_eq_zero h0, A, c, by rw [h0]⟩
  · obtain ⟨g, cap, rfl, _, hgl, hc, _, hcells⟩ := own_cells h (by omega)
    refine .inr ⟨g, 0, cap, rfl, by omega, hc, hgl, fun i hi => ?_⟩
    rw [Nat.zero_add, hcells i hi, List.getElem?_map, List.getD_eq_getElem?_getD, List.getElem?_eq_getElem hi]; rfl
theorem Mid.wh {X O P : Nat → Prop} {w wc : World} {q d r n nB : Nat} {s t : DSt} {wh : Int} {k : BkV} (h : Mid X w wc q d s O r t P wh n k nB) : wc.cell? ⟨r, 11, none⟩ = some (.int .i64 wh) := by
  obtain ⟨Bm, Bs, cm, cs, vc, G, C, hx, _⟩ := h.rb
  exact hx.blk.cell 11
theorem ReadQ.len {s : DSt} (h : DWf s) (j : Int) : (readX s j).length ≤ 1024 := by
  unfold readX
  split
  · simp
  · split
    · by_cases hj : (s.ca j.toNat).length - 1 < (s.ca j.toNat).length
      · rw [List.getD_eq_getElem?_getD, List.getElem?_eq_getElem hj]
        have := h.cl j.toNat _ (List.getElem_mem hj)
        show List.length _ ≤ 1024
        have h9 := h.sz1
        simp only [Option.getD_some]
        omega
      · rw [List.getD_eq_getElem?_getD, List.getElem?_eq_none (by omega)]; simp
    · rename_i h1 h2
      by_cases hj : s.inr j
      · have := h.dl j.toNat (by have := hj.1; have := hj.2; omega)
        have h9 := h.sz1
        omega
      · exfalso; apply h1; unfold readE; rw [if_pos hj]; decide
theorem durX_len {s : DSt} (h : DWf s) (j : Int) : (durX s j).length ≤ 1024 := by
  unfold durX
  split
  · simp
  · rename_i h1
    by_cases hj : s.inr j
    · have := h.dl j.toNat (by have := hj.1; have := hj.2; omega)
      have h9 := h.sz1
      omega
    · exfalso; apply h1; unfold durE; rw [if_pos hj]; decide
set_option maxHeartbeats 4000000 in
set_option maxRecDepth 100000 in
theorem look_1 (X : Nat → Prop) (w : World) (q d : Nat) (s : DSt) (O : Nat → Prop) (r : Nat) (P : Nat → Prop) (wh : Int) (n : Nat) (k : BkV) (nB : Nat) (o : OpV) (h : PairA X w q d s O r s P wh n k nB) (hr : RdN X w o.dv o.data) (hI1 : I64 o.blk) (hI2 : I64 o.cnt) (hb : BytesL o.data) (hl : o.data.length ≤ 1048576) (hn : n ≤ 10000000000) (hk : o.kind = 1) :
    Calls Tryz.prog 23 #[.pointer (some ⟨q, 0, none⟩), o.agg] w (StepQ X w q (n + 8193)) := by
  obtain ⟨Q, eQ⟩ : ∃ Q, Q = StepQ X w q (n + 8193) := ⟨_, rfl⟩
  rw [← eQ]
  have EQ := Lib.hid eQ
  obtain ⟨kind, blk, cnt, dv, data⟩ := o
  dsimp only at hk hr hI1 hI2 hb hl
  subst hk
  obtain ⟨A, cp, rfl⟩ := hr.1.slice
  simp only [OpV.agg]
  obtain ⟨L, eL⟩ : ∃ L, L = data.length := ⟨_, rfl⟩
  rw [← eL] at hl hr ⊢
  have HR := Lib.hid hr
  have EL := Lib.hid eL
  have HBY := Lib.hid hb
  have H0 := Lib.hid h
  have HXW := Lib.hid h.lts
  clear eQ hr h hb eL
  go_enter Tryz.func23, Tryz.ntmps23
  go_upto_region 1 with (fail)
  obtain ⟨wb, ewb⟩ : ∃ wb, wb = w.alloc (.cells #[.int .i64 1, .int .i64 blk, .int .i64 cnt, .slice A L cp] 40) := ⟨_, rfl⟩
  have hbw : Below w.heap.size w wb := by rw [ewb]; exact (Below.refl _ _).alloc (Nat.le_refl _) _
  obtain ⟨B0, eB0⟩ : ∃ B0, B0 = w.heap.size := ⟨_, rfl⟩
  have hbox : Blk wb B0 40 #[.int .i64 1, .int .i64 blk, .int .i64 cnt, .slice A L cp] := by rw [ewb, eB0]; exact Blk.new _ _ _
  have hx0 : ¬ X B0 := fun h => by have := HXW.out B0 h; omega
  have hm1 := (H0.out.keep hbw).start
  rw [← ewb, ← eB0]
  have HBW := Lib.hid hbw
  have HBOX := Lib.hid hbox
  have HX0 := Lib.hid hx0
  have b0 : wb.cell? ⟨B0, 0, none⟩ = some (.int .i64 1) := hbox.cell 0
  have b1 : wb.cell? ⟨B0, 1, none⟩ = some (.int .i64 blk) := hbox.cell 1
  have b2 : wb.cell? ⟨B0, 2, none⟩ = some (.int .i64 cnt) := hbox.cell 2
  have b3 : wb.cell? ⟨B0, 3, none⟩ = some (.slice A L cp) := hbox.cell 3
  obtain ⟨c0, c1, c2⟩ := hm1.cells
  have HM1 := Lib.hid hm1
  clear hbw hbox hx0 hm1 ewb eB0
  have hw1 := Lib.hid (read_ok O wb.drew d s blk (HM1.out.db.drewN 1) (Nat.le_trans (HM1.out.cap _) (by omega)))
  obtain ⟨xs, exs⟩ : ∃ x, x = readX s blk := ⟨_, rfl⟩
  obtain ⟨e0, ee0⟩ : ∃ x, x = readE s blk := ⟨_, rfl⟩
  obtain ⟨s2, es2⟩ : ∃ x, x = readS s blk := ⟨_, rfl⟩
  rw [← exs, ← ee0, ← es2] at hw1
  have hlen : xs.length ≤ 1024 := by rw [exs]; exact ReadQ.len HM1.out.db.wf blk
  have EXS := Lib.hid exs
  have EE0 := Lib.hid ee0
  have ES2 := Lib.hid es2
  clear exs ee0 es2
  go_upto_region 3 with (fail)
  go_cut [5, 6] from 29 to 38 (fun va er wx => AnsP wb.heap.size wx va xs ∧ AnsE wb.heap.size wx er e0 blk ∧ OnlyP O wb wx ∧ DRep O wx d s2)
  case first =>
    go_region_law (first
      | (go_simp; go_at_call 31; refine hw1.out.mono ?_; rintro e w2 ⟨va, er, rfl, hxs, her, hon2, hdr2⟩; have HXS := Lib.hid hxs; have HER := Lib.hid her; have HON := Lib.hid hon2; have HDR := Lib.hid hdr2; clear hxs her hon2 hdr2))
    all_goals go_wp2_with fail
    all_goals go_meet
    all_goals exact ⟨HXS.out, HER.out, ⟨HON.out.os, HON.out.tape, HON.out.output, HON.out.size, HON.out.block⟩, HDR.out⟩
  case rest =>
  obtain ⟨hxs, her, hon2, hdr2⟩ := hcut
  obtain ⟨w2, rfl⟩ : ∃ w2, w2 = wc := ⟨_, rfl⟩
  obtain ⟨va, rfl⟩ : ∃ va, va = u5 := ⟨_, rfl⟩
  obtain ⟨er, rfl⟩ : ∃ er, er = u6 := ⟨_, rfl⟩
  obtain ⟨O2, hm2⟩ := HM1.out.dstep (s2 := s2) ⟨hon2, O, hdr2, fun b hb => .inl hb⟩
  have HXS := Lib.hid hxs
  have HER := Lib.hid her
  have HPW := Lib.hid (fun b hb => HM1.out.rb.lt (b := b) hb)
  clear hw1 hxs her hon2 hdr2 b0 b1 b2 b3 c0 c1 c2
  obtain ⟨c0, c1, c2⟩ := hm2.cells
  have hbx := hm2.box HBOX.out HX0.out
  have b0 := hbx.cell 0
  have b1 := hbx.cell 1
  have b2 := hbx.cell 2
  have b3 := hbx.cell 3
  simp only [List.getElem?_toArray, List.getElem?_cons_zero, List.getElem?_cons_succ] at b0 b1 b2 b3
  have HM2 := Lib.hid hm2
  clear hbx hm2
  have hw2 := Lib.hid (rread_ok P w2.drew r s wh blk n (HM2.out.rb.drewN 1) (by omega))
  rw [← EXS.out, ← EE0.out, ← ES2.out] at hw2
  obtain ⟨T, eT⟩ : ∃ x, x = trB e0 blk := ⟨_, rfl⟩
  have ET := Lib.hid eT
  clear eT
  go_upto_region 4 with (fail)
  go_cut [7, 8] from 39 to 48 (fun vb f wx => f = .int .i64 e0 ∧ AnsP w2.heap.size wx vb xs ∧ OnlyP P w2 wx ∧ RRep P wx r s2 T n)
  case first =>
    go_region_law (first
      | (go_simp; go_at_call 32; refine hw2.out.mono ?_; rintro e w4 ⟨vb, rfl, hxb, hon4, hrr4⟩; have HXB := Lib.hid hxb; have HON := Lib.hid hon4; have HRR := Lib.hid hrr4; clear hxb hon4 hrr4))
    all_goals go_wp2_with fail
    all_goals go_meet
    all_goals exact ⟨rfl, HXB.out, ⟨HON.out.os, HON.out.tape, HON.out.output, HON.out.size, HON.out.block⟩, by rw [ET.out]; exact HRR.out⟩
  case rest =>
  obtain ⟨rfl, hxb, hon4, hrr4⟩ := hcut
  obtain ⟨w4, rfl⟩ : ∃ w4, w4 = wc := ⟨_, rfl⟩
  obtain ⟨vb, rfl⟩ : ∃ vb, vb = u7 := ⟨_, rfl⟩
  obtain ⟨P2, hm4⟩ := HM2.out.rstep (n2 := n) (Nat.le_refl _) ⟨hon4, P, hrr4, fun b hb => .inl hb⟩
  have hxa4 : AnsP wb.heap.size w4 va xs := HXS.out.only hon4 (fun b h1 h2 h3 => by have := HPW.out b h3; omega)
  have her4 : AnsE wb.heap.size w4 er e0 blk := HER.out.only hon4 (fun b h1 h2 h3 => by have := HPW.out b h3; omega)
  have HXA4 := Lib.hid hxa4
  have HER4 := Lib.hid her4
  have HXB4 := Lib.hid hxb
  clear hw2 hxa4 her4 hxb hon4 hrr4 b0 b1 b2 b3 c0 c1 c2
  obtain ⟨c0, c1, c2⟩ := hm4.cells
  have hbx := hm4.box HBOX.out HX0.out
  have b0 := hbx.cell 0
  have b1 := hbx.cell 1
  have b2 := hbx.cell 2
  have b3 := hbx.cell 3
  simp only [List.getElem?_toArray, List.getElem?_cons_zero, List.getElem?_cons_succ] at b0 b1 b2 b3
  have HM4 := Lib.hid hm4
  clear hbx hm4
  have htr := Lib.hid (trouble_ok wb.heap.size w4 er e0 blk HER4.out)
  rw [← ET.out] at htr
  go_wp2_with fail
  refine htr.out.mono ?_
  rintro e w5 ⟨rfl, m5, rfl⟩
  obtain ⟨w5, e5⟩ : ∃ x, x = w4.drewN m5 := ⟨_, rfl⟩
  have hm5 := HM4.out.drewN m5
  rw [← e5] at hm5 ⊢
  have hra : Rd .u8 w5 va xs := by rw [e5]; exact HXA4.out.rd
  have hrb : Rd .u8 w5 vb xs := by rw [e5]; exact HXB4.out.rd
  have hsm : ∀ m, Calls Tryz.prog 30 #[va, vb] (w5.drewN m) fun e w' => e = .returned (.bool true) ∧ ∃ m', w' = w5.drewN m' := fun m => by
    have h9 := sameB_ok va vb xs xs (w5.drewN m) hra hrb (by unfold maxLen; omega) (by unfold maxLen; omega)
    rw [decide_eq_true rfl] at h9
    exact h9.mono (fun e w' ⟨m', h1, h2⟩ => ⟨h1, m + m', by rw [h2, World.drewN_drewN]⟩)
  have HSM := Lib.hid hsm
  have kwh := hm5.wh
  have hwc := hm5.cells.2.1
  have HF := Lib.hid (show ∀ m, Q (.returned (.bool true)) (w5.drewN m) from fun m => by rw [EQ.out]; exact (ES2.out ▸ (hm5.drewN m)).out HBW.out (by omega))
  have cq2 := hm5.cells.2.2
  clear htr hm5 hra hrb hsm e5 b0 b1 b2 b3 c0 c1 c2
  go_wp2_with fail
  refine (HSM.out 0).mono ?_
  rintro e w6 ⟨rfl, m6, rfl⟩
  have HFm := Lib.hid (HF.out m6)
  have cq6 : (w5.drewN m6).cell? ⟨q, 2, none⟩ = some (.bool false) := cq2
  obtain ⟨w6, e6⟩ : ∃ x, x = w5.drewN m6 := ⟨_, rfl⟩
  rw [← e6] at HFm cq6 ⊢
  clear e6 cq2 kwh hwc HF HSM
  go_wp2_with fail
  first | exact HFm.out | (go_ret; exact HFm.out)
set_option maxHeartbeats 4000000 in
set_option maxRecDepth 100000 in
theorem look_8 (X : Nat → Prop) (w : World) (q d : Nat) (s : DSt) (O : Nat → Prop) (r : Nat) (P : Nat → Prop) (wh : Int) (n : Nat) (k : BkV) (nB : Nat) (o : OpV) (h : PairA X w q d s O r s P wh n k nB) (hr : RdN X w o.dv o.data) (hI1 : I64 o.blk) (hI2 : I64 o.cnt) (hb : BytesL o.data) (hl : o.data.length ≤ 1048576) (hn : n ≤ 10000000000) (hk : o.kind = 8) :
    Calls Tryz.prog 23 #[.pointer (some ⟨q, 0, none⟩), o.agg] w (StepQ X w q (n + 8193)) := by
  obtain ⟨Q, eQ⟩ : ∃ Q, Q = StepQ X w q (n + 8193) := ⟨_, rfl⟩
  rw [← eQ]
  have EQ := Lib.hid eQ
  obtain ⟨kind, blk, cnt, dv, data⟩ := o
  dsimp only at hk hr hI1 hI2 hb hl
  subst hk
  obtain ⟨A, cp, rfl⟩ := hr.1.slice
  simp only [OpV.agg]
  obtain ⟨L, eL⟩ : ∃ L, L = data.length := ⟨_, rfl⟩
  rw [← eL] at hl hr ⊢
  have HR := Lib.hid hr
  have EL := Lib.hid eL
  have HBY := Lib.hid hb
  have H0 := Lib.hid h
  have HXW := Lib.hid h.lts
  clear eQ hr h hb eL
  go_enter Tryz.func23, Tryz.ntmps23
  go_upto_region 1 with (fail)
  obtain ⟨wb, ewb⟩ : ∃ wb, wb = w.alloc (.cells #[.int .i64 8, .int .i64 blk, .int .i64 cnt, .slice A L cp] 40) := ⟨_, rfl⟩
  have hbw : Below w.heap.size w wb := by rw [ewb]; exact (Below.refl _ _).alloc (Nat.le_refl _) _
  obtain ⟨B0, eB0⟩ : ∃ B0, B0 = w.heap.size := ⟨_, rfl⟩
  have hbox : Blk wb B0 40 #[.int .i64 8, .int .i64 blk, .int .i64 cnt, .slice A L cp] := by rw [ewb, eB0]; exact Blk.new _ _ _
  have hx0 : ¬ X B0 := fun h => by have := HXW.out B0 h; omega
  have hm1 := (H0.out.keep hbw).start
  rw [← ewb, ← eB0]
  have HBW := Lib.hid hbw
  have HBOX := Lib.hid hbox
  have HX0 := Lib.hid hx0
  have b0 : wb.cell? ⟨B0, 0, none⟩ = some (.int .i64 8) := hbox.cell 0
  have b1 : wb.cell? ⟨B0, 1, none⟩ = some (.int .i64 blk) := hbox.cell 1
  have b2 : wb.cell? ⟨B0, 2, none⟩ = some (.int .i64 cnt) := hbox.cell 2
  have b3 : wb.cell? ⟨B0, 3, none⟩ = some (.slice A L cp) := hbox.cell 3
  obtain ⟨c0, c1, c2⟩ := hm1.cells
  have HM1 := Lib.hid hm1
  clear hbw hbox hx0 hm1 ewb eB0
  have hw1 := Lib.hid (durable_ok O wb.drew d s blk (HM1.out.db.drewN 1))
  obtain ⟨xs, exs⟩ : ∃ x, x = durX s blk := ⟨_, rfl⟩
  obtain ⟨e0, ee0⟩ : ∃ x, x = durE s blk := ⟨_, rfl⟩
  obtain ⟨s2, es2⟩ : ∃ x, x = s := ⟨_, rfl⟩
  rw [← exs, ← ee0, ← es2] at hw1
  have hlen : xs.length ≤ 1024 := by rw [exs]; exact durX_len HM1.out.db.wf blk
  have EXS := Lib.hid exs
  have EE0 := Lib.hid ee0
  have ES2 := Lib.hid es2
  clear exs ee0 es2
  go_upto_region 12 with (fail)
  go_cut [12, 13] from 90 to 99 (fun va er wx => AnsP wb.heap.size wx va xs ∧ AnsE wb.heap.size wx er e0 blk ∧ OnlyP O wb wx ∧ DRep O wx d s2)
  case first =>
    go_region_law (first
      | (go_simp; go_at_call 36; refine hw1.out.mono ?_; rintro e w2 ⟨va, er, rfl, hxs, her, hon2, hdr2⟩; have HXS := Lib.hid hxs; have HER := Lib.hid her; have HON := Lib.hid hon2; have HDR := Lib.hid hdr2; clear hxs her hon2 hdr2))
    all_goals go_wp2_with fail
    all_goals go_meet
    all_goals exact ⟨HXS.out, HER.out, ⟨HON.out.os, HON.out.tape, HON.out.output, HON.out.size, HON.out.block⟩, HDR.out⟩
  case rest =>
  obtain ⟨hxs, her, hon2, hdr2⟩ := hcut
  obtain ⟨w2, rfl⟩ : ∃ w2, w2 = wc := ⟨_, rfl⟩
  obtain ⟨va, rfl⟩ : ∃ va, va = u12 := ⟨_, rfl⟩
  obtain ⟨er, rfl⟩ : ∃ er, er = u13 := ⟨_, rfl⟩
  obtain ⟨O2, hm2⟩ := HM1.out.dstep (s2 := s2) ⟨hon2, O, hdr2, fun b hb => .inl hb⟩
  have HXS := Lib.hid hxs
  have HER := Lib.hid her
  have HPW := Lib.hid (fun b hb => HM1.out.rb.lt (b := b) hb)
  clear hw1 hxs her hon2 hdr2 b0 b1 b2 b3 c0 c1 c2
  obtain ⟨c0, c1, c2⟩ := hm2.cells
  have hbx := hm2.box HBOX.out HX0.out
  have b0 := hbx.cell 0
  have b1 := hbx.cell 1
  have b2 := hbx.cell 2
  have b3 := hbx.cell 3
  simp only [List.getElem?_toArray, List.getElem?_cons_zero, List.getElem?_cons_succ] at b0 b1 b2 b3
  have HM2 := Lib.hid hm2
  clear hbx hm2
  have hw2 := Lib.hid (rdurable_ok P w2.drew r s wh blk n (HM2.out.rb.drewN 1))
  rw [← EXS.out, ← EE0.out, ← ES2.out] at hw2
  obtain ⟨T, eT⟩ : ∃ x, x = trB e0 blk := ⟨_, rfl⟩
  have ET := Lib.hid eT
  clear eT
  go_upto_region 13 with (fail)
  go_cut [14, 15] from 100 to 109 (fun vb f wx => f = .int .i64 e0 ∧ AnsP w2.heap.size wx vb xs ∧ OnlyP P w2 wx ∧ RRep P wx r s2 T n)
  case first =>
    go_region_law (first
      | (go_simp; go_at_call 37; refine hw2.out.mono ?_; rintro e w4 ⟨vb, rfl, hxb, hon4, hrr4⟩; have HXB := Lib.hid hxb; have HON := Lib.hid hon4; have HRR := Lib.hid hrr4; clear hxb hon4 hrr4))
    all_goals go_wp2_with fail
    all_goals go_meet
    all_goals exact ⟨rfl, HXB.out, ⟨HON.out.os, HON.out.tape, HON.out.output, HON.out.size, HON.out.block⟩, by rw [ET.out]; exact HRR.out⟩
  case rest =>
  obtain ⟨rfl, hxb, hon4, hrr4⟩ := hcut
  obtain ⟨w4, rfl⟩ : ∃ w4, w4 = wc := ⟨_, rfl⟩
  obtain ⟨vb, rfl⟩ : ∃ vb, vb = u14 := ⟨_, rfl⟩
  obtain ⟨P2, hm4⟩ := HM2.out.rstep (n2 := n) (Nat.le_refl _) ⟨hon4, P, hrr4, fun b hb => .inl hb⟩
  have hxa4 : AnsP wb.heap.size w4 va xs := HXS.out.only hon4 (fun b h1 h2 h3 => by have := HPW.out b h3; omega)
  have her4 : AnsE wb.heap.size w4 er e0 blk := HER.out.only hon4 (fun b h1 h2 h3 => by have := HPW.out b h3; omega)
  have HXA4 := Lib.hid hxa4
  have HER4 := Lib.hid her4
  have HXB4 := Lib.hid hxb
  clear hw2 hxa4 her4 hxb hon4 hrr4 b0 b1 b2 b3 c0 c1 c2
  obtain ⟨c0, c1, c2⟩ := hm4.cells
  have hbx := hm4.box HBOX.out HX0.out
  have b0 := hbx.cell 0
  have b1 := hbx.cell 1
  have b2 := hbx.cell 2
  have b3 := hbx.cell 3
  simp only [List.getElem?_toArray, List.getElem?_cons_zero, List.getElem?_cons_succ] at b0 b1 b2 b3
  have HM4 := Lib.hid hm4
  clear hbx hm4
  have htr := Lib.hid (trouble_ok wb.heap.size w4 er e0 blk HER4.out)
  rw [← ET.out] at htr
  go_wp2_with fail
  refine htr.out.mono ?_
  rintro e w5 ⟨rfl, m5, rfl⟩
  obtain ⟨w5, e5⟩ : ∃ x, x = w4.drewN m5 := ⟨_, rfl⟩
  have hm5 := HM4.out.drewN m5
  rw [← e5] at hm5 ⊢
  have hra : Rd .u8 w5 va xs := by rw [e5]; exact HXA4.out.rd
  have hrb : Rd .u8 w5 vb xs := by rw [e5]; exact HXB4.out.rd
  have hsm : ∀ m, Calls Tryz.prog 30 #[va, vb] (w5.drewN m) fun e w' => e = .returned (.bool true) ∧ ∃ m', w' = w5.drewN m' := fun m => by
    have h9 := sameB_ok va vb xs xs (w5.drewN m) hra hrb (by unfold maxLen; omega) (by unfold maxLen; omega)
    rw [decide_eq_true rfl] at h9
    exact h9.mono (fun e w' ⟨m', h1, h2⟩ => ⟨h1, m + m', by rw [h2, World.drewN_drewN]⟩)
  have HSM := Lib.hid hsm
  have kwh := hm5.wh
  have hwc := hm5.cells.2.1
  have HF := Lib.hid (show ∀ m, Q (.returned (.bool true)) (w5.drewN m) from fun m => by rw [EQ.out]; exact (ES2.out ▸ (hm5.drewN m)).out HBW.out (by omega))
  have cq2 := hm5.cells.2.2
  clear htr hm5 hra hrb hsm e5 b0 b1 b2 b3 c0 c1 c2
  go_wp2_with fail
  refine (HSM.out 0).mono ?_
  rintro e w6 ⟨rfl, m6, rfl⟩
  have HFm := Lib.hid (HF.out m6)
  have cq6 : (w5.drewN m6).cell? ⟨q, 2, none⟩ = some (.bool false) := cq2
  obtain ⟨w6, e6⟩ : ∃ x, x = w5.drewN m6 := ⟨_, rfl⟩
  rw [← e6] at HFm cq6 ⊢
  clear e6 cq2 kwh hwc HF HSM
  go_wp2_with fail
  first | exact HFm.out | (go_ret; exact HFm.out)
set_option maxHeartbeats 4000000 in
set_option maxRecDepth 100000 in
theorem look_9 (X : Nat → Prop) (w : World) (q d : Nat) (s : DSt) (O : Nat → Prop) (r : Nat) (P : Nat → Prop) (wh : Int) (n : Nat) (k : BkV) (nB : Nat) (o : OpV) (h : PairA X w q d s O r s P wh n k nB) (hr : RdN X w o.dv o.data) (hI1 : I64 o.blk) (hI2 : I64 o.cnt) (hb : BytesL o.data) (hl : o.data.length ≤ 1048576) (hn : n ≤ 10000000000) (hk : o.kind = 9) :
    Calls Tryz.prog 23 #[.pointer (some ⟨q, 0, none⟩), o.agg] w (StepQ X w q (n + 8193)) := by
  obtain ⟨Q, eQ⟩ : ∃ Q, Q = StepQ X w q (n + 8193) := ⟨_, rfl⟩
  rw [← eQ]
  have EQ := Lib.hid eQ
  obtain ⟨kind, blk, cnt, dv, data⟩ := o
  dsimp only at hk hr hI1 hI2 hb hl
  subst hk
  obtain ⟨A, cp, rfl⟩ := hr.1.slice
  simp only [OpV.agg]
  obtain ⟨L, eL⟩ : ∃ L, L = data.length := ⟨_, rfl⟩
  rw [← eL] at hl hr ⊢
  have HR := Lib.hid hr
  have EL := Lib.hid eL
  have HBY := Lib.hid hb
  have H0 := Lib.hid h
  have HXW := Lib.hid h.lts
  clear eQ hr h hb eL
  go_enter Tryz.func23, Tryz.ntmps23
  go_upto_region 1 with (fail)
  obtain ⟨wb, ewb⟩ : ∃ wb, wb = w.alloc (.cells #[.int .i64 9, .int .i64 blk, .int .i64 cnt, .slice A L cp] 40) := ⟨_, rfl⟩
  have hbw : Below w.heap.size w wb := by rw [ewb]; exact (Below.refl _ _).alloc (Nat.le_refl _) _
  obtain ⟨B0, eB0⟩ : ∃ B0, B0 = w.heap.size := ⟨_, rfl⟩
  have hbox : Blk wb B0 40 #[.int .i64 9, .int .i64 blk, .int .i64 cnt, .slice A L cp] := by rw [ewb, eB0]; exact Blk.new _ _ _
  have hx0 : ¬ X B0 := fun h => by have := HXW.out B0 h; omega
  have hm1 := (H0.out.keep hbw).start
  rw [← ewb, ← eB0]
  have HBW := Lib.hid hbw
  have HBOX := Lib.hid hbox
  have HX0 := Lib.hid hx0
  have b0 : wb.cell? ⟨B0, 0, none⟩ = some (.int .i64 9) := hbox.cell 0
  have b1 : wb.cell? ⟨B0, 1, none⟩ = some (.int .i64 blk) := hbox.cell 1
  have b2 : wb.cell? ⟨B0, 2, none⟩ = some (.int .i64 cnt) := hbox.cell 2
  have b3 : wb.cell? ⟨B0, 3, none⟩ = some (.slice A L cp) := hbox.cell 3
  obtain ⟨c0, c1, c2⟩ := hm1.cells
  have HM1 := Lib.hid hm1
  clear hbw hbox hx0 hm1 ewb eB0
  have hw1 := Lib.hid (image_ok O wb d s HM1.out.db)
  go_wp2_with fail
  refine hw1.out.mono ?_
  rintro e w2 ⟨va, rfl, hxs, hon2, hdr2⟩
  obtain ⟨O2, hm2⟩ := HM1.out.dstep (s2 := s) ⟨hon2, O, hdr2, fun b hb => .inl hb⟩
  have HXS := Lib.hid (own_rd hxs)
  have HWF := Lib.hid hdr2.wf
  clear hw1 hxs hon2 hdr2 b0 b1 b2 b3 c0 c1 c2
  obtain ⟨c0, c1, c2⟩ := hm2.cells
  have hbx := hm2.box HBOX.out HX0.out
  have b0 := hbx.cell 0
  have b1 := hbx.cell 1
  have b2 := hbx.cell 2
  have b3 := hbx.cell 3
  simp only [List.getElem?_toArray, List.getElem?_cons_zero, List.getElem?_cons_succ] at b0 b1 b2 b3
  have HM2 := Lib.hid hm2
  clear hbx hm2
  have hw2 := Lib.hid (rimage_ok P w2 r s wh n HM2.out.rb)
  obtain ⟨NN, eNN⟩ : ∃ x, x = s.nb * s.sz := ⟨_, rfl⟩
  have hil := imgL_len HWF.out s.nb (Nat.le_refl _)
  have hnn : NN ≤ 8388608 := by rw [eNN]; exact Nat.le_trans (Nat.mul_le_mul HWF.out.nb2 HWF.out.sz1) (by decide)
  rw [← eNN] at hil
  have HIL := Lib.hid hil
  have ENN := Lib.hid eNN
  clear eNN hil
  go_wp2_with fail
  refine hw2.out.mono ?_
  rintro e w4 ⟨g, rfl, hg, hrow, hb4⟩
  rw [← ENN.out] at hrow ⊢
  have hm4 := HM2.out.keep hb4
  have hra : Rd .u8 w4 va (imgL s s.nb) := HXS.out.below hb4
  have hrb : Rd .u8 w4 (.slice (some ⟨g, 0, none⟩) NN NN) (imgL s s.nb) := by
    have h9 := hrow.rd (imgL s s.nb) NN (by rw [HIL.out]; exact Nat.le_refl _) (by rw [HIL.out]; exact Nat.le_refl _) (fun i _ => rfl)
    rw [HIL.out] at h9; exact h9
  have hsm := sameB_ok _ _ _ _ w4 hra hrb (by rw [HIL.out]; unfold maxLen; omega) (by rw [HIL.out]; unfold maxLen; omega)
  rw [decide_eq_true rfl] at hsm
  have HSM := Lib.hid hsm
  clear hw2 hra hrb hsm hg hrow hb4 b0 b1 b2 b3 c0 c1 c2
  obtain ⟨c0, c1, c2⟩ := hm4.cells
  have hbx := hm4.box HBOX.out HX0.out
  have b0 := hbx.cell 0
  have b1 := hbx.cell 1
  have b2 := hbx.cell 2
  have b3 := hbx.cell 3
  simp only [List.getElem?_toArray, List.getElem?_cons_zero, List.getElem?_cons_succ] at b0 b1 b2 b3
  have HM4 := Lib.hid hm4
  clear hbx hm4
  go_wp2_with fail
  refine HSM.out.mono ?_
  rintro e w6 ⟨m6, rfl, rfl⟩
  have HF := Lib.hid (show Q (.returned (.bool true)) (w4.drewN m6) by rw [EQ.out]; exact (HM4.out.drewN m6).out HBW.out (by omega))
  have cq6 : (w4.drewN m6).cell? ⟨q, 2, none⟩ = some (.bool false) := c2
  obtain ⟨w6, e6⟩ : ∃ x, x = w4.drewN m6 := ⟨_, rfl⟩
  rw [← e6] at HF cq6 ⊢
  clear e6 c2 HSM b0 b1 b2 b3 c0 c1
  go_wp2_with fail
  first | exact HF.out | (go_ret; exact HF.out)
set_option maxHeartbeats 4000000 in
set_option maxRecDepth 100000 in
theorem look_6 (X : Nat → Prop) (w : World) (q d : Nat) (s : DSt) (O : Nat → Prop) (r : Nat) (P : Nat → Prop) (wh : Int) (n : Nat) (k : BkV) (nB : Nat) (o : OpV) (h : PairA X w q d s O r s P wh n k nB) (hr : RdN X w o.dv o.data) (hI1 : I64 o.blk) (hI2 : I64 o.cnt) (hb : BytesL o.data) (hl : o.data.length ≤ 1048576) (hn : n ≤ 10000000000) (hk : o.kind = 6) :
    Calls Tryz.prog 23 #[.pointer (some ⟨q, 0, none⟩), o.agg] w (StepQ X w q (n + 8193)) := by
  obtain ⟨Q, eQ⟩ : ∃ Q, Q = StepQ X w q (n + 8193) := ⟨_, rfl⟩
  rw [← eQ]
  have EQ := Lib.hid eQ
  obtain ⟨kind, blk, cnt, dv, data⟩ := o
  dsimp only at hk hr hI1 hI2 hb hl
  subst hk
  obtain ⟨A, cp, rfl⟩ := hr.1.slice
  simp only [OpV.agg]
  obtain ⟨L, eL⟩ : ∃ L, L = data.length := ⟨_, rfl⟩
  rw [← eL] at hl hr ⊢
  have HR := Lib.hid hr
  have EL := Lib.hid eL
  have HBY := Lib.hid hb
  have H0 := Lib.hid h
  have HXW := Lib.hid h.lts
  clear eQ hr h hb eL
  go_enter Tryz.func23, Tryz.ntmps23
  go_upto_region 1 with (fail)
  obtain ⟨wb, ewb⟩ : ∃ wb, wb = w.alloc (.cells #[.int .i64 6, .int .i64 blk, .int .i64 cnt, .slice A L cp] 40) := ⟨_, rfl⟩
  have hbw : Below w.heap.size w wb := by rw [ewb]; exact (Below.refl _ _).alloc (Nat.le_refl _) _
  obtain ⟨B0, eB0⟩ : ∃ B0, B0 = w.heap.size := ⟨_, rfl⟩
  have hbox : Blk wb B0 40 #[.int .i64 6, .int .i64 blk, .int .i64 cnt, .slice A L cp] := by rw [ewb, eB0]; exact Blk.new _ _ _
  have hx0 : ¬ X B0 := fun h => by have := HXW.out B0 h; omega
  have hm1 := (H0.out.keep hbw).start
  rw [← ewb, ← eB0]
  have HBW := Lib.hid hbw
  have HBOX := Lib.hid hbox
  have HX0 := Lib.hid hx0
  have b0 : wb.cell? ⟨B0, 0, none⟩ = some (.int .i64 6) := hbox.cell 0
  have b1 : wb.cell? ⟨B0, 1, none⟩ = some (.int .i64 blk) := hbox.cell 1
  have b2 : wb.cell? ⟨B0, 2, none⟩ = some (.int .i64 cnt) := hbox.cell 2
  have b3 : wb.cell? ⟨B0, 3, none⟩ = some (.slice A L cp) := hbox.cell 3
  obtain ⟨c0, c1, c2⟩ := hm1.cells
  have HM1 := Lib.hid hm1
  clear hbw hbox hx0 hm1 ewb eB0
  have hw1 := Lib.hid (cached_ok O wb d s HM1.out.db)
  have hcl : (cachedL s).length ≤ 8192 := Nat.le_trans (keysL_len _ _) HM1.out.db.wf.nb2
  obtain ⟨zs, ezs⟩ : ∃ x, x = cachedL s := ⟨_, rfl⟩
  rw [← ezs] at hcl
  have EZS := Lib.hid ezs
  clear ezs
  go_wp2_with fail
  refine hw1.out.mono ?_
  rintro e w2 ⟨va, rfl, hxs, _, hb2⟩
  rw [← EZS.out] at hxs
  have hm2 := HM1.out.keep hb2
  have HXS := Lib.hid hxs
  clear hw1 hxs hb2 b0 b1 b2 b3 c0 c1 c2
  obtain ⟨c0, c1, c2⟩ := hm2.cells
  have hbx := hm2.box HBOX.out HX0.out
  have b0 := hbx.cell 0
  have b1 := hbx.cell 1
  have b2 := hbx.cell 2
  have b3 := hbx.cell 3
  simp only [List.getElem?_toArray, List.getElem?_cons_zero, List.getElem?_cons_succ] at b0 b1 b2 b3
  have HM2 := Lib.hid hm2
  clear hbx hm2
  have hw2 := Lib.hid (rcachedL_ok P w2 r s wh n HM2.out.rb (by omega))
  go_wp2_with fail
  refine hw2.out.mono ?_
  rintro e w4 ⟨vb, rfl, hown, hb4⟩
  rw [← EZS.out] at hown
  have hm4 := HM2.out.keep hb4
  have hsm := sameI_ok va vb zs zs w4 (HXS.out.below hb4) (own_rd hown) (by unfold maxLen; omega) (by unfold maxLen; omega)
  rw [decide_eq_true rfl] at hsm
  have HSM := Lib.hid hsm
  clear hw2 hsm hown hb4 b0 b1 b2 b3 c0 c1 c2
  obtain ⟨c0, c1, c2⟩ := hm4.cells
  have hbx := hm4.box HBOX.out HX0.out
  have b0 := hbx.cell 0
  have b1 := hbx.cell 1
  have b2 := hbx.cell 2
  have b3 := hbx.cell 3
  simp only [List.getElem?_toArray, List.getElem?_cons_zero, List.getElem?_cons_succ] at b0 b1 b2 b3
  have HM4 := Lib.hid hm4
  clear hbx hm4
  go_wp2_with fail
  refine HSM.out.mono ?_
  rintro e w6 ⟨m6, rfl, rfl⟩
  have HF := Lib.hid (show Q (.returned (.bool true)) (w4.drewN m6) by rw [EQ.out]; exact (HM4.out.drewN m6).out HBW.out (by omega))
  have cq6 : (w4.drewN m6).cell? ⟨q, 2, none⟩ = some (.bool false) := c2
  obtain ⟨w6, e6⟩ : ∃ x, x = w4.drewN m6 := ⟨_, rfl⟩
  rw [← e6] at HF cq6 ⊢
  clear e6 c2 HSM b0 b1 b2 b3 c0 c1
  go_wp2_with fail
  first | exact HF.out | (go_ret; exact HF.out)
end Go.Proofs.YtigfcoibbmndpaaGreat
