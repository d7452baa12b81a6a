/- Joined of the texts LxG LxH LxI. -/
import Derived.Test.YtigfcoibbmndpaaGreatMxB
import Derived.Outline
import Derived.Deep.RegionLaw
import Derived.Deep.CutRange
/- One step of a kind that changes something. Printed by wip/tools/gen_lx.py. -/
namespace Go.Proofs.YtigfcoibbmndpaaGreat
open Go.RowKit
open Go.ChangeMaps
set_option linter.unusedVariables false
set_option linter.unusedSimpArgs false
set_option maxHeartbeats 4000000 in
set_option maxRecDepth 100000 in
theorem act_4 (X : Nat → Prop) (w : World) (q d : Nat) (s : DSt) (O : Nat → Prop) (r : Nat) (P : Nat → Prop) (wh : Int) (n : Nat) (k : BkV) (nB : Nat) (o : OpV) (h : PairA X w q d s O r s P wh n k nB) (hr : RdN X w o.dv o.data) (hI1 : I64 o.blk) (hI2 : I64 o.cnt) (hb : BytesL o.data) (hl : o.data.length ≤ 1048576) (hn : n ≤ 10000000000) (hk : o.kind = 4) :
    Calls Tryz.prog 26 #[.pointer (some ⟨q, 0, none⟩), o.agg] w (StepQ X w q (n + 8193)) := by
  obtain ⟨Q, eQ⟩ : ∃ Q, Q = StepQ X w q (n + 8193) := ⟨_, rfl⟩
  rw [← eQ]
  have EQ := Lib.hid eQ
  obtain ⟨kind, blk, cnt, dv, data⟩ := o
  dsimp only at hk hr hI1 hI2 hb hl
  subst hk
  obtain ⟨A, cp, rfl⟩ := hr.1.slice
  simp only [OpV.agg]
  obtain ⟨L, eL⟩ : ∃ L, L = data.length := ⟨_, rfl⟩
  rw [← eL] at hl hr ⊢
  have HR := Lib.hid hr
  have EL := Lib.hid eL
  have HBY := Lib.hid hb
  have H0 := Lib.hid h
  have HXW := Lib.hid h.lts
  clear eQ hr h hb eL
  go_enter Tryz.func26, Tryz.ntmps26
  go_upto_region 1 with (fail)
  obtain ⟨wb, ewb⟩ : ∃ wb, wb = w.alloc (.cells #[.int .i64 4, .int .i64 blk, .int .i64 cnt, .slice A L cp] 40) := ⟨_, rfl⟩
  have hbw : Below w.heap.size w wb := by rw [ewb]; exact (Below.refl _ _).alloc (Nat.le_refl _) _
  obtain ⟨B0, eB0⟩ : ∃ B0, B0 = w.heap.size := ⟨_, rfl⟩
  have hbox : Blk wb B0 40 #[.int .i64 4, .int .i64 blk, .int .i64 cnt, .slice A L cp] := by rw [ewb, eB0]; exact Blk.new _ _ _
  have hx0 : ¬ X B0 := fun h => by have := HXW.out B0 h; omega
  have hm1 := (H0.out.keep hbw).start
  rw [← ewb, ← eB0]
  have HBW := Lib.hid hbw
  have HBOX := Lib.hid hbox
  have HX0 := Lib.hid hx0
  have b0 : wb.cell? ⟨B0, 0, none⟩ = some (.int .i64 4) := hbox.cell 0
  have b1 : wb.cell? ⟨B0, 1, none⟩ = some (.int .i64 blk) := hbox.cell 1
  have b2 : wb.cell? ⟨B0, 2, none⟩ = some (.int .i64 cnt) := hbox.cell 2
  have b3 : wb.cell? ⟨B0, 3, none⟩ = some (.slice A L cp) := hbox.cell 3
  obtain ⟨c0, c1, c2⟩ := hm1.cells
  have HM1 := Lib.hid hm1
  clear hbw hbox hx0 hm1 ewb eB0
  obtain ⟨e0, ee0⟩ : ∃ x, x = (zeroR s blk cnt).2.1 := ⟨_, rfl⟩
  obtain ⟨jj, ejj⟩ : ∃ x, x = (zeroR s blk cnt).2.2 := ⟨_, rfl⟩
  obtain ⟨s2, es2⟩ : ∃ x, x = (zeroR s blk cnt).1 := ⟨_, rfl⟩
  obtain ⟨T, eT⟩ : ∃ x, x = trB e0 jj := ⟨_, rfl⟩
  have EE0 := Lib.hid ee0
  have EJJ := Lib.hid ejj
  have ES2 := Lib.hid es2
  have ET := Lib.hid eT
  clear ee0 ejj es2 eT
  go_wp2_with fail
  obtain ⟨wd, ewd⟩ : ∃ W, W = wb.drew := ⟨_, rfl⟩
  have hmwd := HM1.out.drewN 1
  rw [show wb.drewN 1 = wd from ewd.symm] at hmwd
  go_still_tail 8, (by kernel_rfl)
  change wpList _ _ _ _ _ wb.drew
  rw [← ewd]
  clear ewd b0 b1 b2 b3 c0 c1 c2
  obtain ⟨c0, c1, c2⟩ := hmwd.cells
  have hbx := hmwd.box HBOX.out HX0.out
  have b0 := hbx.cell 0
  have b1 := hbx.cell 1
  have b2 := hbx.cell 2
  have b3 := hbx.cell 3
  simp only [List.getElem?_toArray, List.getElem?_cons_zero, List.getElem?_cons_succ] at b0 b1 b2 b3
  have HMwd := Lib.hid hmwd
  clear hbx hmwd
  have hw1 := Lib.hid (zero_ok O wd d s blk cnt hI1 HMwd.out.db (fun k => by have := HMwd.out.cap k; omega))
  rw [← ES2.out, ← EE0.out, ← EJJ.out] at hw1
  go_wp2_with fail
  refine hw1.out.mono ?_
  rintro e w2 ⟨er, rfl, her, hst2⟩
  obtain ⟨O2, hm2⟩ := HMwd.out.dstep hst2
  have HER := Lib.hid her
  have HPW := Lib.hid (fun b hb => HMwd.out.rb.lt (b := b) hb)
  clear hw1 her hst2 b0 b1 b2 b3 c0 c1 c2
  obtain ⟨c0, c1, c2⟩ := hm2.cells
  have hbx := hm2.box HBOX.out HX0.out
  have b0 := hbx.cell 0
  have b1 := hbx.cell 1
  have b2 := hbx.cell 2
  have b3 := hbx.cell 3
  simp only [List.getElem?_toArray, List.getElem?_cons_zero, List.getElem?_cons_succ] at b0 b1 b2 b3
  have HM2 := Lib.hid hm2
  clear hbx hm2
  go_wp2_with fail
  obtain ⟨wf, ewf⟩ : ∃ W, W = w2.drew := ⟨_, rfl⟩
  have hmwf := HM2.out.drewN 1
  rw [show w2.drewN 1 = wf from ewf.symm] at hmwf
  go_still_tail 8, (by kernel_rfl)
  change wpList _ _ _ _ _ w2.drew
  rw [← ewf]
  have hef : AnsE wd.heap.size wf er e0 jj := by rw [ewf]; exact HER.out.below ⟨rfl, rfl, rfl, Nat.le_refl _, fun _ _ => rfl⟩
  have HEF := Lib.hid hef
  clear hef
  clear ewf b0 b1 b2 b3 c0 c1 c2
  obtain ⟨c0, c1, c2⟩ := hmwf.cells
  have hbx := hmwf.box HBOX.out HX0.out
  have b0 := hbx.cell 0
  have b1 := hbx.cell 1
  have b2 := hbx.cell 2
  have b3 := hbx.cell 3
  simp only [List.getElem?_toArray, List.getElem?_cons_zero, List.getElem?_cons_succ] at b0 b1 b2 b3
  have HMwf := Lib.hid hmwf
  clear hbx hmwf
  have hw2 := Lib.hid (rzero_ok P wf r s wh n blk cnt hI1 HMwf.out.rb (by omega))
  rw [← ES2.out, ← EE0.out, ← EJJ.out] at hw2
  go_wp2_with fail
  refine hw2.out.mono ?_
  rintro e w4 ⟨rfl, hst4⟩
  rw [← ET.out] at hst4
  obtain ⟨P2, hm4⟩ := HMwf.out.rstep (n2 := n + 8192) (by omega) hst4
  have her4 : AnsE wd.heap.size w4 er e0 jj := HEF.out.only hst4.1 (fun b h1 h2 h3 => by have := HPW.out b h3; omega)
  have HER4 := Lib.hid her4
  clear hw2 her4 hst4 b0 b1 b2 b3 c0 c1 c2
  obtain ⟨c0, c1, c2⟩ := hm4.cells
  have hbx := hm4.box HBOX.out HX0.out
  have b0 := hbx.cell 0
  have b1 := hbx.cell 1
  have b2 := hbx.cell 2
  have b3 := hbx.cell 3
  simp only [List.getElem?_toArray, List.getElem?_cons_zero, List.getElem?_cons_succ] at b0 b1 b2 b3
  have HM4 := Lib.hid hm4
  clear hbx hm4
  have htr := Lib.hid (trouble_ok wd.heap.size w4 er e0 jj HER4.out)
  rw [← ET.out] at htr
  go_wp2_with fail
  refine htr.out.mono ?_
  rintro e w5 ⟨rfl, m5, rfl⟩
  obtain ⟨w5, e5⟩ : ∃ x, x = w4.drewN m5 := ⟨_, rfl⟩
  have hm5 := HM4.out.drewN m5
  rw [← e5] at hm5 ⊢
  have kwh := hm5.wh
  obtain ⟨q0, q1, q2⟩ := hm5.cells
  have HF := Lib.hid (show ∀ m, Q (.returned (.bool true)) (w5.drewN m) from fun m => by rw [EQ.out]; exact (hm5.drewN m).out HBW.out (by omega))
  have HF0 := Lib.hid (HF.out 0)
  clear htr hm5 e5 b0 b1 b2 b3 c0 c1 c2
  go_wp2_with fail
  (try (go_quiet (fail); go_wp2_with fail))
  first | exact HF0.out | exact HF.out _ | (go_ret; exact HF0.out) | (go_ret; exact HF.out _)
set_option maxHeartbeats 4000000 in
set_option maxRecDepth 100000 in
theorem act_10 (X : Nat → Prop) (w : World) (q d : Nat) (s : DSt) (O : Nat → Prop) (r : Nat) (P : Nat → Prop) (wh : Int) (n : Nat) (k : BkV) (nB : Nat) (o : OpV) (h : PairA X w q d s O r s P wh n k nB) (hr : RdN X w o.dv o.data) (hI1 : I64 o.blk) (hI2 : I64 o.cnt) (hb : BytesL o.data) (hl : o.data.length ≤ 1048576) (hn : n ≤ 10000000000) (hk : o.kind = 10) :
    Calls Tryz.prog 26 #[.pointer (some ⟨q, 0, none⟩), o.agg] w (StepQ X w q (n + 8193)) := by
  obtain ⟨Q, eQ⟩ : ∃ Q, Q = StepQ X w q (n + 8193) := ⟨_, rfl⟩
  rw [← eQ]
  have EQ := Lib.hid eQ
  obtain ⟨kind, blk, cnt, dv, data⟩ := o
  dsimp only at hk hr hI1 hI2 hb hl
  subst hk
  obtain ⟨A, cp, rfl⟩ := hr.1.slice
  simp only [OpV.agg]
  obtain ⟨L, eL⟩ : ∃ L, L = data.length := ⟨_, rfl⟩
  rw [← eL] at hl hr ⊢
  have HR := Lib.hid hr
  have EL := Lib.hid eL
  have HBY := Lib.hid hb
  have H0 := Lib.hid h
  have HXW := Lib.hid h.lts
  clear eQ hr h hb eL
  go_enter Tryz.func26, Tryz.ntmps26
  go_upto_region 1 with (fail)
  obtain ⟨wb, ewb⟩ : ∃ wb, wb = w.alloc (.cells #[.int .i64 10, .int .i64 blk, .int .i64 cnt, .slice A L cp] 40) := ⟨_, rfl⟩
  have hbw : Below w.heap.size w wb := by rw [ewb]; exact (Below.refl _ _).alloc (Nat.le_refl _) _
  obtain ⟨B0, eB0⟩ : ∃ B0, B0 = w.heap.size := ⟨_, rfl⟩
  have hbox : Blk wb B0 40 #[.int .i64 10, .int .i64 blk, .int .i64 cnt, .slice A L cp] := by rw [ewb, eB0]; exact Blk.new _ _ _
  have hx0 : ¬ X B0 := fun h => by have := HXW.out B0 h; omega
  have hm1 := (H0.out.keep hbw).start
  rw [← ewb, ← eB0]
  have HBW := Lib.hid hbw
  have HBOX := Lib.hid hbox
  have HX0 := Lib.hid hx0
  have b0 : wb.cell? ⟨B0, 0, none⟩ = some (.int .i64 10) := hbox.cell 0
  have b1 : wb.cell? ⟨B0, 1, none⟩ = some (.int .i64 blk) := hbox.cell 1
  have b2 : wb.cell? ⟨B0, 2, none⟩ = some (.int .i64 cnt) := hbox.cell 2
  have b3 : wb.cell? ⟨B0, 3, none⟩ = some (.slice A L cp) := hbox.cell 3
  obtain ⟨c0, c1, c2⟩ := hm1.cells
  have HM1 := Lib.hid hm1
  clear hbw hbox hx0 hm1 ewb eB0
  obtain ⟨e0, ee0⟩ : ∃ x, x = spoilE s blk := ⟨_, rfl⟩
  obtain ⟨jj, ejj⟩ : ∃ x, x = blk := ⟨_, rfl⟩
  obtain ⟨s2, es2⟩ : ∃ x, x = spoilS s blk := ⟨_, rfl⟩
  obtain ⟨T, eT⟩ : ∃ x, x = trB e0 jj := ⟨_, rfl⟩
  have EE0 := Lib.hid ee0
  have EJJ := Lib.hid ejj
  have ES2 := Lib.hid es2
  have ET := Lib.hid eT
  clear ee0 ejj es2 eT
  go_wp2_with fail
  obtain ⟨wd, ewd⟩ : ∃ W, W = wb.drew := ⟨_, rfl⟩
  have hmwd := HM1.out.drewN 1
  rw [show wb.drewN 1 = wd from ewd.symm] at hmwd
  go_still_tail 6, (by kernel_rfl)
  change wpList _ _ _ _ _ wb.drew
  rw [← ewd]
  clear ewd b0 b1 b2 b3 c0 c1 c2
  obtain ⟨c0, c1, c2⟩ := hmwd.cells
  have hbx := hmwd.box HBOX.out HX0.out
  have b0 := hbx.cell 0
  have b1 := hbx.cell 1
  have b2 := hbx.cell 2
  have b3 := hbx.cell 3
  simp only [List.getElem?_toArray, List.getElem?_cons_zero, List.getElem?_cons_succ] at b0 b1 b2 b3
  have HMwd := Lib.hid hmwd
  clear hbx hmwd
  have hw1 := Lib.hid (spoil_ok O wd d s blk HMwd.out.db)
  rw [← ES2.out, ← EE0.out] at hw1
  go_wp2_with fail
  refine hw1.out.mono ?_
  rintro e w2 ⟨er, rfl, her, hst2⟩
  rw [← EJJ.out] at her
  obtain ⟨O2, hm2⟩ := HMwd.out.dstep hst2
  have HER := Lib.hid her
  have HPW := Lib.hid (fun b hb => HMwd.out.rb.lt (b := b) hb)
  clear hw1 her hst2 b0 b1 b2 b3 c0 c1 c2
  obtain ⟨c0, c1, c2⟩ := hm2.cells
  have hbx := hm2.box HBOX.out HX0.out
  have b0 := hbx.cell 0
  have b1 := hbx.cell 1
  have b2 := hbx.cell 2
  have b3 := hbx.cell 3
  simp only [List.getElem?_toArray, List.getElem?_cons_zero, List.getElem?_cons_succ] at b0 b1 b2 b3
  have HM2 := Lib.hid hm2
  clear hbx hm2
  go_wp2_with fail
  obtain ⟨wf, ewf⟩ : ∃ W, W = w2.drew := ⟨_, rfl⟩
  have hmwf := HM2.out.drewN 1
  rw [show w2.drewN 1 = wf from ewf.symm] at hmwf
  go_still_tail 6, (by kernel_rfl)
  change wpList _ _ _ _ _ w2.drew
  rw [← ewf]
  have hef : AnsE wd.heap.size wf er e0 jj := by rw [ewf]; exact HER.out.below ⟨rfl, rfl, rfl, Nat.le_refl _, fun _ _ => rfl⟩
  have HEF := Lib.hid hef
  clear hef
  clear ewf b0 b1 b2 b3 c0 c1 c2
  obtain ⟨c0, c1, c2⟩ := hmwf.cells
  have hbx := hmwf.box HBOX.out HX0.out
  have b0 := hbx.cell 0
  have b1 := hbx.cell 1
  have b2 := hbx.cell 2
  have b3 := hbx.cell 3
  simp only [List.getElem?_toArray, List.getElem?_cons_zero, List.getElem?_cons_succ] at b0 b1 b2 b3
  have HMwf := Lib.hid hmwf
  clear hbx hmwf
  have hw2 := Lib.hid (rspoil_ok P wf r s wh blk n HMwf.out.rb)
  rw [← ES2.out, ← EE0.out] at hw2
  go_wp2_with fail
  refine hw2.out.mono ?_
  rintro e w4 ⟨rfl, hst4⟩
  rw [show trB e0 blk = T by rw [ET.out, EJJ.out]] at hst4
  obtain ⟨P2, hm4⟩ := HMwf.out.rstep (n2 := n) (by omega) hst4
  have her4 : AnsE wd.heap.size w4 er e0 jj := HEF.out.only hst4.1 (fun b h1 h2 h3 => by have := HPW.out b h3; omega)
  have HER4 := Lib.hid her4
  clear hw2 her4 hst4 b0 b1 b2 b3 c0 c1 c2
  obtain ⟨c0, c1, c2⟩ := hm4.cells
  have hbx := hm4.box HBOX.out HX0.out
  have b0 := hbx.cell 0
  have b1 := hbx.cell 1
  have b2 := hbx.cell 2
  have b3 := hbx.cell 3
  simp only [List.getElem?_toArray, List.getElem?_cons_zero, List.getElem?_cons_succ] at b0 b1 b2 b3
  have HM4 := Lib.hid hm4
  clear hbx hm4
  have htr := Lib.hid (trouble_ok wd.heap.size w4 er e0 jj HER4.out)
  rw [← ET.out] at htr
  go_wp2_with fail
  refine htr.out.mono ?_
  rintro e w5 ⟨rfl, m5, rfl⟩
  obtain ⟨w5, e5⟩ : ∃ x, x = w4.drewN m5 := ⟨_, rfl⟩
  have hm5 := HM4.out.drewN m5
  rw [← e5] at hm5 ⊢
  have kwh := hm5.wh
  obtain ⟨q0, q1, q2⟩ := hm5.cells
  have HF := Lib.hid (show ∀ m, Q (.returned (.bool true)) (w5.drewN m) from fun m => by rw [EQ.out]; exact (hm5.drewN m).out HBW.out (by omega))
  have HF0 := Lib.hid (HF.out 0)
  clear htr hm5 e5 b0 b1 b2 b3 c0 c1 c2
  go_wp2_with fail
  (try (go_quiet (fail); go_wp2_with fail))
  first | exact HF0.out | exact HF.out _ | (go_ret; exact HF0.out) | (go_ret; exact HF.out _)
set_option maxHeartbeats 4000000 in
set_option maxRecDepth 100000 in
theorem act_11 (X : Nat → Prop) (w : World) (q d : Nat) (s : DSt) (O : Nat → Prop) (r : Nat) (P : Nat → Prop) (wh : Int) (n : Nat) (k : BkV) (nB : Nat) (o : OpV) (h : PairA X w q d s O r s P wh n k nB) (hr : RdN X w o.dv o.data) (hI1 : I64 o.blk) (hI2 : I64 o.cnt) (hb : BytesL o.data) (hl : o.data.length ≤ 1048576) (hn : n ≤ 10000000000) (hk : o.kind = 11) :
    Calls Tryz.prog 26 #[.pointer (some ⟨q, 0, none⟩), o.agg] w (StepQ X w q (n + 8193)) := by
  obtain ⟨Q, eQ⟩ : ∃ Q, Q = StepQ X w q (n + 8193) := ⟨_, rfl⟩
  rw [← eQ]
  have EQ := Lib.hid eQ
  obtain ⟨kind, blk, cnt, dv, data⟩ := o
  dsimp only at hk hr hI1 hI2 hb hl
  subst hk
  obtain ⟨A, cp, rfl⟩ := hr.1.slice
  simp only [OpV.agg]
  obtain ⟨L, eL⟩ : ∃ L, L = data.length := ⟨_, rfl⟩
  rw [← eL] at hl hr ⊢
  have HR := Lib.hid hr
  have EL := Lib.hid eL
  have HBY := Lib.hid hb
  have H0 := Lib.hid h
  have HXW := Lib.hid h.lts
  clear eQ hr h hb eL
  go_enter Tryz.func26, Tryz.ntmps26
  go_upto_region 1 with (fail)
  obtain ⟨wb, ewb⟩ : ∃ wb, wb = w.alloc (.cells #[.int .i64 11, .int .i64 blk, .int .i64 cnt, .slice A L cp] 40) := ⟨_, rfl⟩
  have hbw : Below w.heap.size w wb := by rw [ewb]; exact (Below.refl _ _).alloc (Nat.le_refl _) _
  obtain ⟨B0, eB0⟩ : ∃ B0, B0 = w.heap.size := ⟨_, rfl⟩
  have hbox : Blk wb B0 40 #[.int .i64 11, .int .i64 blk, .int .i64 cnt, .slice A L cp] := by rw [ewb, eB0]; exact Blk.new _ _ _
  have hx0 : ¬ X B0 := fun h => by have := HXW.out B0 h; omega
  have hm1 := (H0.out.keep hbw).start
  rw [← ewb, ← eB0]
  have HBW := Lib.hid hbw
  have HBOX := Lib.hid hbox
  have HX0 := Lib.hid hx0
  have b0 : wb.cell? ⟨B0, 0, none⟩ = some (.int .i64 11) := hbox.cell 0
  have b1 : wb.cell? ⟨B0, 1, none⟩ = some (.int .i64 blk) := hbox.cell 1
  have b2 : wb.cell? ⟨B0, 2, none⟩ = some (.int .i64 cnt) := hbox.cell 2
  have b3 : wb.cell? ⟨B0, 3, none⟩ = some (.slice A L cp) := hbox.cell 3
  obtain ⟨c0, c1, c2⟩ := hm1.cells
  have HM1 := Lib.hid hm1
  clear hbw hbox hx0 hm1 ewb eB0
  go_wp2_with fail
  obtain ⟨wd, ewd⟩ : ∃ W, W = wb.drew := ⟨_, rfl⟩
  have hmwd := HM1.out.drewN 1
  rw [show wb.drewN 1 = wd from ewd.symm] at hmwd
  go_still_tail 6, (by kernel_rfl)
  change wpList _ _ _ _ _ wb.drew
  rw [← ewd]
  clear ewd b0 b1 b2 b3 c0 c1 c2
  obtain ⟨c0, c1, c2⟩ := hmwd.cells
  have hbx := hmwd.box HBOX.out HX0.out
  have b0 := hbx.cell 0
  have b1 := hbx.cell 1
  have b2 := hbx.cell 2
  have b3 := hbx.cell 3
  simp only [List.getElem?_toArray, List.getElem?_cons_zero, List.getElem?_cons_succ] at b0 b1 b2 b3
  have HMwd := Lib.hid hmwd
  clear hbx hmwd
  have hw1 := Lib.hid (fuse_ok O wd d s cnt HMwd.out.db (i64_lt hI2))
  go_wp2_with fail
  refine hw1.out.mono ?_
  rintro e w2 ⟨rfl, hst2⟩
  obtain ⟨O2, hm2⟩ := HMwd.out.dstep hst2
  clear hw1 hst2 b0 b1 b2 b3 c0 c1 c2
  obtain ⟨c0, c1, c2⟩ := hm2.cells
  have hbx := hm2.box HBOX.out HX0.out
  have b0 := hbx.cell 0
  have b1 := hbx.cell 1
  have b2 := hbx.cell 2
  have b3 := hbx.cell 3
  simp only [List.getElem?_toArray, List.getElem?_cons_zero, List.getElem?_cons_succ] at b0 b1 b2 b3
  have HM2 := Lib.hid hm2
  clear hbx hm2
  go_wp2_with fail
  obtain ⟨wf, ewf⟩ : ∃ W, W = w2.drew := ⟨_, rfl⟩
  have hmwf := HM2.out.drewN 1
  rw [show w2.drewN 1 = wf from ewf.symm] at hmwf
  go_still_tail 6, (by kernel_rfl)
  change wpList _ _ _ _ _ w2.drew
  rw [← ewf]
  clear ewf b0 b1 b2 b3 c0 c1 c2
  obtain ⟨c0, c1, c2⟩ := hmwf.cells
  have hbx := hmwf.box HBOX.out HX0.out
  have b0 := hbx.cell 0
  have b1 := hbx.cell 1
  have b2 := hbx.cell 2
  have b3 := hbx.cell 3
  simp only [List.getElem?_toArray, List.getElem?_cons_zero, List.getElem?_cons_succ] at b0 b1 b2 b3
  have HMwf := Lib.hid hmwf
  clear hbx hmwf
  have hw2 := Lib.hid (rfuse_ok P wf r s wh cnt n HMwf.out.rb (i64_lt hI2))
  go_wp2_with fail
  refine hw2.out.mono ?_
  rintro e w4 ⟨rfl, hst4⟩
  obtain ⟨P2, hm4⟩ := HMwf.out.rstep (n2 := n) (Nat.le_refl _) hst4
  have HF := Lib.hid (show Q (.returned (.bool true)) w4 by rw [EQ.out]; exact hm4.out HBW.out (by omega))
  clear hw2 hst4 hm4 b0 b1 b2 b3 c0 c1 c2
  go_wp2_with fail
  first | exact HF.out | (go_ret; exact HF.out)
end Go.Proofs.YtigfcoibbmndpaaGreat
/- One step: Flush. Printed by wip/tools/gen_lx.py. -/
namespace Go.Proofs.YtigfcoibbmndpaaGreat
open Go.RowKit
open Go.ChangeMaps
set_option linter.unusedVariables false
set_option linter.unusedSimpArgs false
set_option maxHeartbeats 4000000 in
set_option maxRecDepth 100000 in
theorem act_5 (X : Nat → Prop) (w : World) (q d : Nat) (s : DSt) (O : Nat → Prop) (r : Nat) (P : Nat → Prop) (wh : Int) (n : Nat) (k : BkV) (nB : Nat) (o : OpV) (h : PairA X w q d s O r s P wh n k nB) (hr : RdN X w o.dv o.data) (hI1 : I64 o.blk) (hI2 : I64 o.cnt) (hb : BytesL o.data) (hl : o.data.length ≤ 1048576) (hn : n ≤ 10000000000) (hk : o.kind = 5) :
    Calls Tryz.prog 26 #[.pointer (some ⟨q, 0, none⟩), o.agg] w (StepQ X w q (n + 8193)) := by
  obtain ⟨Q, eQ⟩ : ∃ Q, Q = StepQ X w q (n + 8193) := ⟨_, rfl⟩
  rw [← eQ]
  have EQ := Lib.hid eQ
  obtain ⟨kind, blk, cnt, dv, data⟩ := o
  dsimp only at hk hr hI1 hI2 hb hl
  subst hk
  obtain ⟨A, cp, rfl⟩ := hr.1.slice
  simp only [OpV.agg]
  obtain ⟨L, eL⟩ : ∃ L, L = data.length := ⟨_, rfl⟩
  rw [← eL] at hl hr ⊢
  have HR := Lib.hid hr
  have EL := Lib.hid eL
  have HBY := Lib.hid hb
  have H0 := Lib.hid h
  have HXW := Lib.hid h.lts
  clear eQ hr h hb eL
  go_enter Tryz.func26, Tryz.ntmps26
  go_upto_region 1 with (fail)
  obtain ⟨wb, ewb⟩ : ∃ wb, wb = w.alloc (.cells #[.int .i64 5, .int .i64 blk, .int .i64 cnt, .slice A L cp] 40) := ⟨_, rfl⟩
  have hbw : Below w.heap.size w wb := by rw [ewb]; exact (Below.refl _ _).alloc (Nat.le_refl _) _
  obtain ⟨B0, eB0⟩ : ∃ B0, B0 = w.heap.size := ⟨_, rfl⟩
  have hbox : Blk wb B0 40 #[.int .i64 5, .int .i64 blk, .int .i64 cnt, .slice A L cp] := by rw [ewb, eB0]; exact Blk.new _ _ _
  have hx0 : ¬ X B0 := fun h => by have := HXW.out B0 h; omega
  have hm1 := (H0.out.keep hbw).start
  rw [← ewb, ← eB0]
  have HBW := Lib.hid hbw
  have HBOX := Lib.hid hbox
  have HX0 := Lib.hid hx0
  have b0 : wb.cell? ⟨B0, 0, none⟩ = some (.int .i64 5) := hbox.cell 0
  have b1 : wb.cell? ⟨B0, 1, none⟩ = some (.int .i64 blk) := hbox.cell 1
  have b2 : wb.cell? ⟨B0, 2, none⟩ = some (.int .i64 cnt) := hbox.cell 2
  have b3 : wb.cell? ⟨B0, 3, none⟩ = some (.slice A L cp) := hbox.cell 3
  obtain ⟨c0, c1, c2⟩ := hm1.cells
  have HM1 := Lib.hid hm1
  clear hbw hbox hx0 hm1 ewb eB0
  have hw1 := Lib.hid (flush_ok O wb d s HM1.out.db (fun k => by have := HM1.out.cap k; omega))
  obtain ⟨s2, es2⟩ : ∃ x, x = flushS s := ⟨_, rfl⟩
  obtain ⟨bb, ebb⟩ : ∃ x, x = stepB s := ⟨_, rfl⟩
  rw [← es2, ← ebb] at hw1
  have ES2 := Lib.hid es2
  have EBB := Lib.hid ebb
  clear es2 ebb
  have hfin : ∀ w4 O2 P2 k2, Mid X wb w4 q d s2 O2 r s2 P2 (-1) n k2 nB → ∀ m, Q (.returned (.bool true)) (w4.drewN m) := fun w4 O2 P2 k2 hm m => by rw [EQ.out]; exact (hm.drewN m).out HBW.out (by omega)
  have HFIN := Lib.hid hfin
  clear hfin
  go_wp2_with fail
  refine hw1.out.mono ?_
  rintro e w2 ⟨rfl, hst2⟩
  obtain ⟨O2, hm2⟩ := HM1.out.dstep hst2
  clear hw1 hst2 b0 b1 b2 b3 c0 c1 c2
  obtain ⟨c0, c1, c2⟩ := hm2.cells
  have hbx := hm2.box HBOX.out HX0.out
  have b0 := hbx.cell 0
  have b1 := hbx.cell 1
  have b2 := hbx.cell 2
  have b3 := hbx.cell 3
  simp only [List.getElem?_toArray, List.getElem?_cons_zero, List.getElem?_cons_succ] at b0 b1 b2 b3
  have HM2 := Lib.hid hm2
  clear hbx hm2
  have hw2 := Lib.hid (rflush_ok P w2 r s wh n HM2.out.rb (by omega))
  rw [← ES2.out, ← EBB.out] at hw2
  clear EBB
  cases bb
  all_goals
    simp only [Bool.false_eq_true, if_false, if_true]
    go_wp2_with fail
    refine hw2.out.mono ?_
    rintro e w4 ⟨rfl, hst4⟩
    obtain ⟨P2, hm4⟩ := HM2.out.rstep (n2 := n) (Nat.le_refl _) hst4
    have HFM := Lib.hid (HFIN.out w4 _ _ _ hm4)
    have hans : AnsE 0 w4 .nilIface 0 0 := .inl ⟨rfl, rfl⟩
    have HTOK := Lib.hid (trouble_ok 0 w4 .nilIface 0 0 hans)
    clear hans
    rw [show trB 0 0 = -1 from rfl] at HTOK
    clear hw2 hst4 hm4 b0 b1 b2 b3 c0 c1 c2
    simp only [Bool.false_eq_true, if_false, if_true]
    go_wp2_with fail
    first
      | ((with_reducible refine (trouble_no w4 22).mono ?_))
      | ((with_reducible refine HTOK.out.mono ?_))
    rintro e w5 ⟨rfl, m5, rfl⟩
    have HF := Lib.hid (HFM.out m5)
    obtain ⟨w5, e5⟩ : ∃ x, x = w4.drewN m5 := ⟨_, rfl⟩
    rw [← e5] at HF ⊢
    clear HFM e5
    (try simp only [show trB 0 0 = -1 from rfl])
    go_wp2_with fail
    first | exact HF.out | (go_ret; exact HF.out)
end Go.Proofs.YtigfcoibbmndpaaGreat
/- One step: Crash. Printed by wip/tools/gen_lx.py. -/
namespace Go.Proofs.YtigfcoibbmndpaaGreat
open Go.RowKit
open Go.ChangeMaps
set_option linter.unusedVariables false
set_option linter.unusedSimpArgs false
theorem argV_blk {g L n c b off : Nat} {v : Value} (h : argV g v L = .slice (some ⟨b, off, none⟩) n c) : b = g := by
  unfold argV at h
  split at h
  · cases h
  · simp only [Value.slice.injEq, Option.some.injEq, Addr.mk.injEq] at h
    exact h.1.1.symm
theorem argV_form (g L c : Nat) (A : Option Addr) (hz : A = none → L = 0) : ∃ A' c', argV g (.slice A L c) L = .slice A' L c' := by
  unfold argV
  split
  · rename_i heq
    simp only [Value.slice.injEq] at heq
    exact ⟨none, 0, by rw [hz heq.1]⟩
  · exact ⟨_, _, rfl⟩
theorem row_own {k : IntKind} {t : TypeId} {w : World} {g n : Nat} {f : Nat → Int} (h : RowA k t w g n f) (hn : n ≤ maxLen) : ∃ xs, w.ownsRow 0 t 1 (.slice (some ⟨g, 0, none⟩) n n) n xs := by
  obtain ⟨cur, hb, hs, _⟩ := h
  exact ⟨cur.toList, by rw [Nat.mul_one, Array.length_toList, hs], .inr ⟨g, n, cur, rfl, Nat.zero_le _, hb, Nat.le_refl _, hn, by rw [Nat.mul_one, hs], by rw [Nat.mul_one, ← hs, ← Array.length_toList, List.take_length]⟩⟩
section
variable {X O P : Nat → Prop} {w wb wc w2 : World} {q d r n nB : Nat} {s t : DSt} {wh : Int} {k : BkV}
theorem Mid.base (h : Mid X wb wc q d s O r t P wh n k nB) (hb : Below w.heap.size w wb) : Mid X w wc q d s O r t P wh n k nB := by
  obtain ⟨ho, X1, ha, hX⟩ := h
  exact ⟨(OnlyP.ofBelow hb).then ho, X1, ha, fun b hb' => (hX b hb').imp id (fun h => Nat.le_trans hb.size h)⟩
theorem rd_lt {v : Value} {xs : List Int} {b off m c : Nat} (hr : Rd .u8 w v xs) (hv : v = .slice (some ⟨b, off, none⟩) m c) (hm : 0 < m) : b < w.heap.size := by
  rcases hr with ⟨_, A, c', e⟩ | ⟨b', off', c', e, _, _, h3, _⟩
  · rw [hv] at e; simp only [Value.slice.injEq] at e; omega
  · rw [hv] at e; simp only [Value.slice.injEq, Option.some.injEq, Addr.mk.injEq] at e
    rw [e.1.1]; exact h3
theorem Mid.rdP (h : Mid X w wc q d s O r t P wh n k nB) {v : Value} {xs : List Int} (hr : RdN X w v xs) : RdN P wc v xs ∧ RdN O wc v xs := by
  obtain ⟨ho, X1, ha, hX⟩ := h
  have hx : ∀ b off m c, v = .slice (some ⟨b, off, none⟩) m c → 0 < m → ¬ X1 b := fun b off m c hv hm h1 => by
    rcases hX b h1 with h2 | h2
    · exact hr.2 b off m c hv hm h2
    · have := rd_lt hr.1 hv hm; omega
  exact ⟨⟨hr.only ho, fun b off m c hv hm hp => hx b off m c hv hm (ha.hP b hp)⟩, ⟨hr.only ho, fun b off m c hv hm hp => hx b off m c hv hm (ha.hO b hp)⟩⟩
theorem RdN.below {X : Nat → Prop} {v : Value} {xs : List Int} (hr : RdN X w v xs) (hb : Below w.heap.size w w2) : RdN X w2 v xs := ⟨hr.1.below hb, hr.2⟩
theorem Mid.notO (h : Mid X w wc q d s O r t P wh n k nB) {b : Nat} (hb : b < w.heap.size) (hx : ¬ X b) : ¬ O b ∧ ¬ P b ∧ (¬ k.vB.ownBlock = some b) ∧ b ≠ q := by
  obtain ⟨ho, X1, ha, hX⟩ := h
  have h1 : ¬ X1 b := fun h => (hX b h).elim hx (fun h => by omega)
  exact ⟨fun h => h1 (ha.hO b h), fun h => h1 (ha.hP b h), fun h => h1 (ha.hrow b h), fun h => h1 (h ▸ ha.hq)⟩
end
set_option maxHeartbeats 4000000 in
set_option maxRecDepth 100000 in
theorem act_13 (X : Nat → Prop) (w : World) (q d : Nat) (s : DSt) (O : Nat → Prop) (r : Nat) (P : Nat → Prop) (wh : Int) (n : Nat) (k : BkV) (nB : Nat) (o : OpV) (h : PairA X w q d s O r s P wh n k nB) (hr : RdN X w o.dv o.data) (hI1 : I64 o.blk) (hI2 : I64 o.cnt) (hb : BytesL o.data) (hl : o.data.length ≤ 1048576) (hn : n ≤ 10000000000) (hk : o.kind = 13) :
    Calls Tryz.prog 26 #[.pointer (some ⟨q, 0, none⟩), o.agg] w (StepQ X w q (n + 8193)) := by
  obtain ⟨Q, eQ⟩ : ∃ Q, Q = StepQ X w q (n + 8193) := ⟨_, rfl⟩
  rw [← eQ]
  have EQ := Lib.hid eQ
  obtain ⟨kind, blk, cnt, dv, data⟩ := o
  dsimp only at hk hr hI1 hI2 hb hl
  subst hk
  obtain ⟨A, cp, rfl⟩ := hr.1.slice
  simp only [OpV.agg]
  obtain ⟨L, eL⟩ : ∃ L, L = data.length := ⟨_, rfl⟩
  rw [← eL] at hl hr ⊢
  have HR := Lib.hid hr
  have EL := Lib.hid eL
  have HBY := Lib.hid hb
  have H0 := Lib.hid h
  have HXW := Lib.hid h.lts
  clear eQ hr h hb eL
  go_enter Tryz.func26, Tryz.ntmps26
  go_upto_region 1 with (fail)
  obtain ⟨wb, ewb⟩ : ∃ wb, wb = w.alloc (.cells #[.int .i64 13, .int .i64 blk, .int .i64 cnt, .slice A L cp] 40) := ⟨_, rfl⟩
  have hbw : Below w.heap.size w wb := by rw [ewb]; exact (Below.refl _ _).alloc (Nat.le_refl _) _
  obtain ⟨B0, eB0⟩ : ∃ B0, B0 = w.heap.size := ⟨_, rfl⟩
  have hbox : Blk wb B0 40 #[.int .i64 13, .int .i64 blk, .int .i64 cnt, .slice A L cp] := by rw [ewb, eB0]; exact Blk.new _ _ _
  have hx0 : ¬ X B0 := fun h => by have := HXW.out B0 h; omega
  have hm1 := (H0.out.keep hbw).start
  rw [← ewb, ← eB0]
  have HBW := Lib.hid hbw
  have HBOX := Lib.hid hbox
  have HX0 := Lib.hid hx0
  have b0 : wb.cell? ⟨B0, 0, none⟩ = some (.int .i64 13) := hbox.cell 0
  have b1 : wb.cell? ⟨B0, 1, none⟩ = some (.int .i64 blk) := hbox.cell 1
  have b2 : wb.cell? ⟨B0, 2, none⟩ = some (.int .i64 cnt) := hbox.cell 2
  have b3 : wb.cell? ⟨B0, 3, none⟩ = some (.slice A L cp) := hbox.cell 3
  obtain ⟨c0, c1, c2⟩ := hm1.cells
  have HM1 := Lib.hid hm1
  clear hbw hbox hx0 hm1 ewb eB0
  obtain ⟨H, eH⟩ : ∃ x, x = wb.heap.size := ⟨_, rfl⟩
  have hhd := hand_ok (.slice A L cp) data wb (HR.out.1.below HBW.out) (by rw [← EL.out]; omega)
  have HHD := Lib.hid hhd
  clear hhd
  go_wp2_with fail
  refine HHD.out.mono ?_
  rintro e wz ⟨rfl, hbz, hrz⟩
  rw [← EL.out, ← eH] at hrz ⊢
  have hHx : ¬ X H := fun h => by have := HXW.out H h; have h2 : w.heap.size ≤ wb.heap.size := HBW.out.size; omega
  have hmz := (H0.out.keep (HBW.out.trans (hbz.mono HBW.out.size))).start
  have hHlt : H < wz.heap.size := hrz.lt
  have hbxz := HBOX.out.below hbz HBOX.out.lt
  have HBZ := Lib.hid hbz
  have HRZ := Lib.hid hrz
  have HHX := Lib.hid hHx
  have HHL := Lib.hid hHlt
  have HBXZ := Lib.hid hbxz
  have HRDZ := Lib.hid (HR.out.below (HBW.out.trans (hbz.mono HBW.out.size)))
  have HEH := Lib.hid eH
  have HALEN := Lib.hid (show A = none → L = 0 from fun hA => by
    rcases HR.out.1 with ⟨h9, _⟩ | ⟨b, off, c', e, _⟩
    · rw [EL.out, h9]; rfl
    · rw [hA] at e; simp at e)
  clear hbz hrz hHx hHlt hbxz eH HHD b0 b1 b2 b3 c0 c1 c2
  obtain ⟨c0, c1, c2⟩ := hmz.cells
  have hbx := hmz.box HBXZ.out HX0.out
  have b0 := hbx.cell 0
  have b1 := hbx.cell 1
  have b2 := hbx.cell 2
  have b3 := hbx.cell 3
  simp only [List.getElem?_toArray, List.getElem?_cons_zero, List.getElem?_cons_succ] at b0 b1 b2 b3
  have HMZ := Lib.hid hmz
  clear hbx hmz
  have harg := Lib.hid (fun W => arg_ok H L cp A W (by omega))
  obtain ⟨av, eav⟩ : ∃ x, x = argV H (.slice A L cp) L := ⟨_, rfl⟩
  rw [← eav] at harg
  have hrda : Rd .u8 wz av data := by
    have h9 := argV_rd (g := H) (v := .slice A L cp) (zs := data) HRDZ.out.1 (by rw [← EL.out]; exact HRZ.out)
    rw [← EL.out, ← eav] at h9; exact h9
  have hrno : RdN O wz av data := ⟨hrda, fun b off m c hv hm => by
    have hbH : b = H := argV_blk (eav.symm.trans hv)
    rw [hbH]; exact (HMZ.out.notO HHL.out HHX.out).1⟩
  obtain ⟨Aa, ca, hav⟩ := argV_form H L cp A HALEN.out
  have hav2 : av = .slice Aa L ca := eav.trans hav
  clear eav hav
  subst hav2
  have HRNO := Lib.hid hrno
  clear hrda hrno
  have hcr := Lib.hid (crash_ok O wz.drew d s (.slice Aa L ca) data (HMZ.out.db.drewN 1) HRNO.out HBY.out (by rw [← EL.out]; omega) (fun k => by have := HMZ.out.cap k; omega))
  obtain ⟨s2, es2⟩ : ∃ x, x = crashS s data := ⟨_, rfl⟩
  rw [← es2] at hcr
  have ES2 := Lib.hid es2
  clear es2
  go_upto_region 26 with (fail)
  go_cut [17] from 158 to 166 (fun a wx => a = .slice (some ⟨H, 0, none⟩) (L + 6) (L + 6) ∧ DStep O wz wx d s2)
  case first =>
    go_region_law (first
      | (go_simp; go_at_call 18; refine (harg.out _).mono ?_; rintro e w' ⟨rfl, rfl⟩)
      | (go_simp; go_at_call 64; refine hcr.out.mono ?_; rintro e w2 ⟨rfl, hst2⟩; have HST2 := Lib.hid hst2; clear hst2))
    all_goals go_wp2_with fail
    all_goals go_meet
    all_goals exact ⟨rfl, ⟨HST2.out.1.os, HST2.out.1.tape, HST2.out.1.output, HST2.out.1.size, HST2.out.1.block⟩, HST2.out.2⟩
  case rest =>
  obtain ⟨rfl, hst2⟩ := hcut
  obtain ⟨w2, rfl⟩ : ∃ w2, w2 = wc := ⟨_, rfl⟩
  obtain ⟨O2, hm2⟩ := HMZ.out.dstep hst2
  clear hcr harg hst2 b0 b1 b2 b3 c0 c1 c2
  obtain ⟨c0, c1, c2⟩ := hm2.cells
  have hbx := hm2.box HBXZ.out HX0.out
  have b0 := hbx.cell 0
  have b1 := hbx.cell 1
  have b2 := hbx.cell 2
  have b3 := hbx.cell 3
  simp only [List.getElem?_toArray, List.getElem?_cons_zero, List.getElem?_cons_succ] at b0 b1 b2 b3
  have HM2 := Lib.hid hm2
  clear hbx hm2
  go_wp2_with fail
  obtain ⟨wf, ewf⟩ : ∃ W, W = w2.drew := ⟨_, rfl⟩
  have hmwf := HM2.out.drewN 1
  rw [show w2.drewN 1 = wf from ewf.symm] at hmwf
  go_still_tail 6, (by kernel_rfl)
  change wpList _ _ _ _ _ w2.drew
  rw [← ewf]
  clear ewf b0 b1 b2 b3 c0 c1 c2
  obtain ⟨c0, c1, c2⟩ := hmwf.cells
  have hbx := hmwf.box HBXZ.out HX0.out
  have b0 := hbx.cell 0
  have b1 := hbx.cell 1
  have b2 := hbx.cell 2
  have b3 := hbx.cell 3
  simp only [List.getElem?_toArray, List.getElem?_cons_zero, List.getElem?_cons_succ] at b0 b1 b2 b3
  have HMwf := Lib.hid hmwf
  clear hbx hmwf
  have hw2 := Lib.hid (rcrash_ok P wf r s wh n (.slice A L cp) data HMwf.out.rb (HMwf.out.rdP HRDZ.out).1 HBY.out (by rw [← EL.out]; omega) (by omega))
  rw [← ES2.out] at hw2
  go_wp2_with fail
  refine hw2.out.mono ?_
  rintro e w5 ⟨rfl, hst4⟩
  obtain ⟨P2, hm5⟩ := HMwf.out.rstep (n2 := n + 2) (by omega) (hst4.up (by omega))
  clear hw2 hst4 b0 b1 b2 b3 c0 c1 c2
  have hrow5 : RowA .u8 5 w5 H (L + 6) (handF data 6) := HRZ.out.keep (hm5.only.block H HHL.out HHX.out)
  have hut := untouched_ok H (.slice A L cp) data w5 (hm5.rdN HRDZ.out) (by rw [← EL.out]; omega) (by rw [← EL.out]; exact hrow5)
  rw [← EL.out] at hut
  have HUT := Lib.hid hut
  have HROW5 := Lib.hid hrow5
  clear hut hrow5
  obtain ⟨c0, c1, c2⟩ := hm5.cells
  have hbx := hm5.box HBXZ.out HX0.out
  have b0 := hbx.cell 0
  have b1 := hbx.cell 1
  have b2 := hbx.cell 2
  have b3 := hbx.cell 3
  simp only [List.getElem?_toArray, List.getElem?_cons_zero, List.getElem?_cons_succ] at b0 b1 b2 b3
  have HM5 := Lib.hid hm5
  clear hbx hm5
  go_wp2_with fail
  refine HUT.out.mono ?_
  rintro e w6 ⟨m6, rfl, rfl⟩
  obtain ⟨w6, e6⟩ : ∃ x, x = w5.drewN m6 := ⟨_, rfl⟩
  have hm6 := HM5.out.drewN m6
  rw [← e6] at hm6 ⊢
  have hrow6 : RowA .u8 5 w6 H (L + 6) (handF data 6) := by rw [e6]; exact HROW5.out
  obtain ⟨xs6, hown6⟩ := row_own hrow6 (by unfold maxLen; omega)
  obtain ⟨_, X6, ha6, _⟩ := id hm6
  obtain ⟨Vs6, hvs6⟩ := ha6.row
  have hnb6 := ha6.hnB
  have hbb := bbytes_ok w6 q d r false k nB Vs6 _ (L + 6) xs6 ha6.blk ha6.lt hvs6 hown6 (by omega) (by omega)
  have HBB := Lib.hid hbb
  have HM6 := Lib.hid hm6
  have HNB6 := Lib.hid hnb6
  clear hbb hm6 hrow6 hown6 ha6 hvs6 e6 hnb6 b0 b1 b2 b3 c0 c1 c2
  obtain ⟨c0, c1, c2⟩ := HM6.out.cells
  have hbx := HM6.out.box HBXZ.out HX0.out
  have b0 := hbx.cell 0
  have b1 := hbx.cell 1
  have b2 := hbx.cell 2
  have b3 := hbx.cell 3
  simp only [List.getElem?_toArray, List.getElem?_cons_zero, List.getElem?_cons_succ] at b0 b1 b2 b3
  clear hbx HUT
  go_wp2_with fail
  refine HBB.out.mono ?_
  intro e w7 hq7
  have hn6 := (HM6.out.notO HHL.out HHX.out)
  obtain ⟨rfl, k7, hm7⟩ := (HM6.out.base HBZ.out).book (by have := HMwf.out.at'; obtain ⟨_, hz, _⟩ := this; have := hz.hnB; omega) (fun g hg => by
    simp only [Value.ownBlock, Option.some.injEq] at hg
    subst hg
    exact ⟨by rw [HEH.out]; exact Nat.le_refl _, hn6.1, hn6.2.1, hn6.2.2.1, hn6.2.2.2⟩) hq7
  have HF := Lib.hid (show Q (.returned (.bool true)) w7 by rw [EQ.out]; exact hm7.out HBW.out (by omega))
  have q72 := hm7.cells.2.2
  clear hq7 hn6 hm7 HBB
  go_wp2_with fail
  first | exact HF.out | (go_ret; exact HF.out)
end Go.Proofs.YtigfcoibbmndpaaGreat
