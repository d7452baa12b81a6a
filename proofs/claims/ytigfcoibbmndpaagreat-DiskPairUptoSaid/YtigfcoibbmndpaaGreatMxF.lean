/- Joined of the texts LxK. -/
import Derived.Test.YtigfcoibbmndpaaGreatMxD
import Derived.Outline
import Derived.Deep.RegionLaw
import Derived.Deep.CutRange
/- One step of any kind. Printed by wip/tools/gen_lx.py. -/
namespace Go.Proofs.YtigfcoibbmndpaaGreat
open Go.RowKit
open Go.ChangeMaps
set_option linter.unusedVariables false
set_option linter.unusedSimpArgs false
theorem StepQ.base {X : Nat → Prop} {w wb : World} {q n : Nat} {e : Ending} {w' : World} (h : StepQ X wb q n e w') (hb : Below w.heap.size w wb) : StepQ X w q n e w' := by
  obtain ⟨h0, h1, X', h2, h3⟩ := h
  exact ⟨h0, (OnlyP.ofBelow hb).then h1, X', h2, fun b hb' => (h3 b hb').imp id (fun h => Nat.le_trans hb.size h)⟩
set_option maxHeartbeats 4000000 in
set_option maxRecDepth 100000 in
theorem act_else (X : Nat → Prop) (w : World) (q d : Nat) (s : DSt) (O : Nat → Prop) (r : Nat) (P : Nat → Prop) (wh : Int) (n : Nat) (k : BkV) (nB : Nat) (o : OpV) (h : PairA X w q d s O r s P wh n k nB) (hr : RdN X w o.dv o.data) (hI1 : I64 o.blk) (hI2 : I64 o.cnt) (hb : BytesL o.data) (hl : o.data.length ≤ 1048576) (hn : n ≤ 10000000000) (hk4 : o.kind ≠ 4) (hk5 : o.kind ≠ 5) (hk10 : o.kind ≠ 10) (hk11 : o.kind ≠ 11) (hk13 : o.kind ≠ 13) :
    Calls Tryz.prog 26 #[.pointer (some ⟨q, 0, none⟩), o.agg] w (StepQ X w q (n + 8193)) := by
  obtain ⟨Q, eQ⟩ : ∃ Q, Q = StepQ X w q (n + 8193) := ⟨_, rfl⟩
  rw [← eQ]
  have EQ := Lib.hid eQ
  obtain ⟨kind, blk, cnt, dv, data⟩ := o
  dsimp only at hk4 hk5 hk10 hk11 hk13 hr hI1 hI2 hb hl
  obtain ⟨A, cp, rfl⟩ := hr.1.slice
  simp only [OpV.agg]
  obtain ⟨L, eL⟩ : ∃ L, L = data.length := ⟨_, rfl⟩
  rw [← eL] at hl hr ⊢
  have H0 := Lib.hid h
  have t4 : (kind == 4) = false := by simpa using hk4
  have t5 : (kind == 5) = false := by simpa using hk5
  have t10 : (kind == 10) = false := by simpa using hk10
  have t11 : (kind == 11) = false := by simpa using hk11
  have t13 : (kind == 13) = false := by simpa using hk13
  clear eQ hr h hb eL hk4 hk5 hk10 hk11 hk13
  go_enter Tryz.func26, Tryz.ntmps26
  have HF : Hid (Q (.returned (.bool true)) (w.alloc (.cells #[.int .i64 kind, .int .i64 blk, .int .i64 cnt, .slice A L cp] 40))) := Lib.hid (by
    rw [EQ.out]; exact (H0.out.keep ((Below.refl _ _).alloc (Nat.le_refl _) _)).start.out ((Below.refl _ _).alloc (Nat.le_refl _) _) (by omega))
  go_wp2_with fail
  first | exact HF.out | (go_ret; exact HF.out)
set_option maxHeartbeats 4000000 in
set_option maxRecDepth 100000 in
theorem step_1 (X : Nat → Prop) (w : World) (q d : Nat) (s : DSt) (O : Nat → Prop) (r : Nat) (P : Nat → Prop) (wh : Int) (n : Nat) (k : BkV) (nB : Nat) (o : OpV) (h : PairA X w q d s O r s P wh n k nB) (hr : RdN X w o.dv o.data) (hI1 : I64 o.blk) (hI2 : I64 o.cnt) (hb : BytesL o.data) (hl : o.data.length ≤ 1048576) (hn : n ≤ 10000000000) (hk : o.kind = 1) :
    Calls Tryz.prog 12 #[.pointer (some ⟨q, 0, none⟩), o.agg] w (StepQ X w q (n + 8193)) := by
  obtain ⟨Q, eQ⟩ : ∃ Q, Q = StepQ X w q (n + 8193) := ⟨_, rfl⟩
  rw [← eQ]
  have EQ := Lib.hid eQ
  obtain ⟨A, cp, edv⟩ := hr.1.slice
  obtain ⟨wb, ewb⟩ : ∃ wb, wb = w.alloc (.cells #[.int .i64 o.kind, .int .i64 o.blk, .int .i64 o.cnt, .slice A o.data.length cp] 40) := ⟨_, rfl⟩
  have hbw : Below w.heap.size w wb := by rw [ewb]; exact (Below.refl _ _).alloc (Nat.le_refl _) _
  have hbox : Blk wb w.heap.size 40 #[.int .i64 o.kind, .int .i64 o.blk, .int .i64 o.cnt, .slice A o.data.length cp] := by rw [ewb]; exact Blk.new _ _ _
  have hc := look_1 X wb q d s O r P wh n k nB o (h.keep hbw) (hr.below hbw) hI1 hI2 hb hl hn hk
  have HC : Hid (Calls Tryz.prog 23 #[.pointer (some ⟨q, 0, none⟩), .agg #[.int .i64 o.kind, .int .i64 o.blk, .int .i64 o.cnt, .slice A o.data.length cp]] wb (StepQ X wb q (n + 8193))) := Lib.hid (by rw [← edv]; exact hc)
  have HBW := Lib.hid hbw
  have HBOX := Lib.hid hbox
  have EWB := Lib.hid ewb
  clear eQ h hb hc hbw hbox ewb hl hI1 hI2 hn hr
  obtain ⟨kind, blk, cnt, dv, data⟩ := o
  dsimp only at hk edv HC HBOX EWB
  subst edv
  subst hk
  simp only [OpV.agg]
  obtain ⟨L, eL⟩ : ∃ L, L = data.length := ⟨_, rfl⟩
  rw [← eL] at HC HBOX EWB ⊢
  clear eL
  go_enter Tryz.func12, Tryz.ntmps12
  go_upto_region 1 with (fail)
  rw [← EWB.out]
  obtain ⟨B0, eB0⟩ : ∃ x, x = w.heap.size := ⟨_, rfl⟩
  rw [← eB0] at HBOX ⊢
  clear eB0
  have b0 := HBOX.out.cell 0
  have b1 := HBOX.out.cell 1
  have b2 := HBOX.out.cell 2
  have b3 := HBOX.out.cell 3
  simp only [List.getElem?_toArray, List.getElem?_cons_zero, List.getElem?_cons_succ] at b0 b1 b2 b3
  go_wp2_with fail
  refine HC.out.mono ?_
  intro e w2 hq
  have HF := Lib.hid (show e = .returned (.bool true) ∧ Q e w2 by rw [EQ.out]; exact ⟨hq.1, hq.base HBW.out⟩)
  clear hq HC
  obtain ⟨rfl, hF⟩ := HF.out
  have HF2 := Lib.hid hF
  clear hF HF
  go_wp2_with fail
  first | exact HF2.out | (go_ret; exact HF2.out)
set_option maxHeartbeats 4000000 in
set_option maxRecDepth 100000 in
theorem step_8 (X : Nat → Prop) (w : World) (q d : Nat) (s : DSt) (O : Nat → Prop) (r : Nat) (P : Nat → Prop) (wh : Int) (n : Nat) (k : BkV) (nB : Nat) (o : OpV) (h : PairA X w q d s O r s P wh n k nB) (hr : RdN X w o.dv o.data) (hI1 : I64 o.blk) (hI2 : I64 o.cnt) (hb : BytesL o.data) (hl : o.data.length ≤ 1048576) (hn : n ≤ 10000000000) (hk : o.kind = 8) :
    Calls Tryz.prog 12 #[.pointer (some ⟨q, 0, none⟩), o.agg] w (StepQ X w q (n + 8193)) := by
  obtain ⟨Q, eQ⟩ : ∃ Q, Q = StepQ X w q (n + 8193) := ⟨_, rfl⟩
  rw [← eQ]
  have EQ := Lib.hid eQ
  obtain ⟨A, cp, edv⟩ := hr.1.slice
  obtain ⟨wb, ewb⟩ : ∃ wb, wb = w.alloc (.cells #[.int .i64 o.kind, .int .i64 o.blk, .int .i64 o.cnt, .slice A o.data.length cp] 40) := ⟨_, rfl⟩
  have hbw : Below w.heap.size w wb := by rw [ewb]; exact (Below.refl _ _).alloc (Nat.le_refl _) _
  have hbox : Blk wb w.heap.size 40 #[.int .i64 o.kind, .int .i64 o.blk, .int .i64 o.cnt, .slice A o.data.length cp] := by rw [ewb]; exact Blk.new _ _ _
  have hc := look_8 X wb q d s O r P wh n k nB o (h.keep hbw) (hr.below hbw) hI1 hI2 hb hl hn hk
  have HC : Hid (Calls Tryz.prog 23 #[.pointer (some ⟨q, 0, none⟩), .agg #[.int .i64 o.kind, .int .i64 o.blk, .int .i64 o.cnt, .slice A o.data.length cp]] wb (StepQ X wb q (n + 8193))) := Lib.hid (by rw [← edv]; exact hc)
  have HBW := Lib.hid hbw
  have HBOX := Lib.hid hbox
  have EWB := Lib.hid ewb
  clear eQ h hb hc hbw hbox ewb hl hI1 hI2 hn hr
  obtain ⟨kind, blk, cnt, dv, data⟩ := o
  dsimp only at hk edv HC HBOX EWB
  subst edv
  subst hk
  simp only [OpV.agg]
  obtain ⟨L, eL⟩ : ∃ L, L = data.length := ⟨_, rfl⟩
  rw [← eL] at HC HBOX EWB ⊢
  clear eL
  go_enter Tryz.func12, Tryz.ntmps12
  go_upto_region 1 with (fail)
  rw [← EWB.out]
  obtain ⟨B0, eB0⟩ : ∃ x, x = w.heap.size := ⟨_, rfl⟩
  rw [← eB0] at HBOX ⊢
  clear eB0
  have b0 := HBOX.out.cell 0
  have b1 := HBOX.out.cell 1
  have b2 := HBOX.out.cell 2
  have b3 := HBOX.out.cell 3
  simp only [List.getElem?_toArray, List.getElem?_cons_zero, List.getElem?_cons_succ] at b0 b1 b2 b3
  go_wp2_with fail
  refine HC.out.mono ?_
  intro e w2 hq
  have HF := Lib.hid (show e = .returned (.bool true) ∧ Q e w2 by rw [EQ.out]; exact ⟨hq.1, hq.base HBW.out⟩)
  clear hq HC
  obtain ⟨rfl, hF⟩ := HF.out
  have HF2 := Lib.hid hF
  clear hF HF
  go_wp2_with fail
  first | exact HF2.out | (go_ret; exact HF2.out)
set_option maxHeartbeats 4000000 in
set_option maxRecDepth 100000 in
theorem step_9 (X : Nat → Prop) (w : World) (q d : Nat) (s : DSt) (O : Nat → Prop) (r : Nat) (P : Nat → Prop) (wh : Int) (n : Nat) (k : BkV) (nB : Nat) (o : OpV) (h : PairA X w q d s O r s P wh n k nB) (hr : RdN X w o.dv o.data) (hI1 : I64 o.blk) (hI2 : I64 o.cnt) (hb : BytesL o.data) (hl : o.data.length ≤ 1048576) (hn : n ≤ 10000000000) (hk : o.kind = 9) :
    Calls Tryz.prog 12 #[.pointer (some ⟨q, 0, none⟩), o.agg] w (StepQ X w q (n + 8193)) := by
  obtain ⟨Q, eQ⟩ : ∃ Q, Q = StepQ X w q (n + 8193) := ⟨_, rfl⟩
  rw [← eQ]
  have EQ := Lib.hid eQ
  obtain ⟨A, cp, edv⟩ := hr.1.slice
  obtain ⟨wb, ewb⟩ : ∃ wb, wb = w.alloc (.cells #[.int .i64 o.kind, .int .i64 o.blk, .int .i64 o.cnt, .slice A o.data.length cp] 40) := ⟨_, rfl⟩
  have hbw : Below w.heap.size w wb := by rw [ewb]; exact (Below.refl _ _).alloc (Nat.le_refl _) _
  have hbox : Blk wb w.heap.size 40 #[.int .i64 o.kind, .int .i64 o.blk, .int .i64 o.cnt, .slice A o.data.length cp] := by rw [ewb]; exact Blk.new _ _ _
  have hc := look_9 X wb q d s O r P wh n k nB o (h.keep hbw) (hr.below hbw) hI1 hI2 hb hl hn hk
  have HC : Hid (Calls Tryz.prog 23 #[.pointer (some ⟨q, 0, none⟩), .agg #[.int .i64 o.kind, .int .i64 o.blk, .int .i64 o.cnt, .slice A o.data.length cp]] wb (StepQ X wb q (n + 8193))) := Lib.hid (by rw [← edv]; exact hc)
  have HBW := Lib.hid hbw
  have HBOX := Lib.hid hbox
  have EWB := Lib.hid ewb
  clear eQ h hb hc hbw hbox ewb hl hI1 hI2 hn hr
  obtain ⟨kind, blk, cnt, dv, data⟩ := o
  dsimp only at hk edv HC HBOX EWB
  subst edv
  subst hk
  simp only [OpV.agg]
  obtain ⟨L, eL⟩ : ∃ L, L = data.length := ⟨_, rfl⟩
  rw [← eL] at HC HBOX EWB ⊢
  clear eL
  go_enter Tryz.func12, Tryz.ntmps12
  go_upto_region 1 with (fail)
  rw [← EWB.out]
  obtain ⟨B0, eB0⟩ : ∃ x, x = w.heap.size := ⟨_, rfl⟩
  rw [← eB0] at HBOX ⊢
  clear eB0
  have b0 := HBOX.out.cell 0
  have b1 := HBOX.out.cell 1
  have b2 := HBOX.out.cell 2
  have b3 := HBOX.out.cell 3
  simp only [List.getElem?_toArray, List.getElem?_cons_zero, List.getElem?_cons_succ] at b0 b1 b2 b3
  go_wp2_with fail
  refine HC.out.mono ?_
  intro e w2 hq
  have HF := Lib.hid (show e = .returned (.bool true) ∧ Q e w2 by rw [EQ.out]; exact ⟨hq.1, hq.base HBW.out⟩)
  clear hq HC
  obtain ⟨rfl, hF⟩ := HF.out
  have HF2 := Lib.hid hF
  clear hF HF
  go_wp2_with fail
  first | exact HF2.out | (go_ret; exact HF2.out)
set_option maxHeartbeats 4000000 in
set_option maxRecDepth 100000 in
theorem step_6 (X : Nat → Prop) (w : World) (q d : Nat) (s : DSt) (O : Nat → Prop) (r : Nat) (P : Nat → Prop) (wh : Int) (n : Nat) (k : BkV) (nB : Nat) (o : OpV) (h : PairA X w q d s O r s P wh n k nB) (hr : RdN X w o.dv o.data) (hI1 : I64 o.blk) (hI2 : I64 o.cnt) (hb : BytesL o.data) (hl : o.data.length ≤ 1048576) (hn : n ≤ 10000000000) (hk : o.kind = 6) :
    Calls Tryz.prog 12 #[.pointer (some ⟨q, 0, none⟩), o.agg] w (StepQ X w q (n + 8193)) := by
  obtain ⟨Q, eQ⟩ : ∃ Q, Q = StepQ X w q (n + 8193) := ⟨_, rfl⟩
  rw [← eQ]
  have EQ := Lib.hid eQ
  obtain ⟨A, cp, edv⟩ := hr.1.slice
  obtain ⟨wb, ewb⟩ : ∃ wb, wb = w.alloc (.cells #[.int .i64 o.kind, .int .i64 o.blk, .int .i64 o.cnt, .slice A o.data.length cp] 40) := ⟨_, rfl⟩
  have hbw : Below w.heap.size w wb := by rw [ewb]; exact (Below.refl _ _).alloc (Nat.le_refl _) _
  have hbox : Blk wb w.heap.size 40 #[.int .i64 o.kind, .int .i64 o.blk, .int .i64 o.cnt, .slice A o.data.length cp] := by rw [ewb]; exact Blk.new _ _ _
  have hc := look_6 X wb q d s O r P wh n k nB o (h.keep hbw) (hr.below hbw) hI1 hI2 hb hl hn hk
  have HC : Hid (Calls Tryz.prog 23 #[.pointer (some ⟨q, 0, none⟩), .agg #[.int .i64 o.kind, .int .i64 o.blk, .int .i64 o.cnt, .slice A o.data.length cp]] wb (StepQ X wb q (n + 8193))) := Lib.hid (by rw [← edv]; exact hc)
  have HBW := Lib.hid hbw
  have HBOX := Lib.hid hbox
  have EWB := Lib.hid ewb
  clear eQ h hb hc hbw hbox ewb hl hI1 hI2 hn hr
  obtain ⟨kind, blk, cnt, dv, data⟩ := o
  dsimp only at hk edv HC HBOX EWB
  subst edv
  subst hk
  simp only [OpV.agg]
  obtain ⟨L, eL⟩ : ∃ L, L = data.length := ⟨_, rfl⟩
  rw [← eL] at HC HBOX EWB ⊢
  clear eL
  go_enter Tryz.func12, Tryz.ntmps12
  go_upto_region 1 with (fail)
  rw [← EWB.out]
  obtain ⟨B0, eB0⟩ : ∃ x, x = w.heap.size := ⟨_, rfl⟩
  rw [← eB0] at HBOX ⊢
  clear eB0
  have b0 := HBOX.out.cell 0
  have b1 := HBOX.out.cell 1
  have b2 := HBOX.out.cell 2
  have b3 := HBOX.out.cell 3
  simp only [List.getElem?_toArray, List.getElem?_cons_zero, List.getElem?_cons_succ] at b0 b1 b2 b3
  go_wp2_with fail
  refine HC.out.mono ?_
  intro e w2 hq
  have HF := Lib.hid (show e = .returned (.bool true) ∧ Q e w2 by rw [EQ.out]; exact ⟨hq.1, hq.base HBW.out⟩)
  clear hq HC
  obtain ⟨rfl, hF⟩ := HF.out
  have HF2 := Lib.hid hF
  clear hF HF
  go_wp2_with fail
  first | exact HF2.out | (go_ret; exact HF2.out)
set_option maxHeartbeats 4000000 in
set_option maxRecDepth 100000 in
theorem step_7 (X : Nat → Prop) (w : World) (q d : Nat) (s : DSt) (O : Nat → Prop) (r : Nat) (P : Nat → Prop) (wh : Int) (n : Nat) (k : BkV) (nB : Nat) (o : OpV) (h : PairA X w q d s O r s P wh n k nB) (hr : RdN X w o.dv o.data) (hI1 : I64 o.blk) (hI2 : I64 o.cnt) (hb : BytesL o.data) (hl : o.data.length ≤ 1048576) (hn : n ≤ 10000000000) (hk : o.kind = 7) :
    Calls Tryz.prog 12 #[.pointer (some ⟨q, 0, none⟩), o.agg] w (StepQ X w q (n + 8193)) := by
  obtain ⟨Q, eQ⟩ : ∃ Q, Q = StepQ X w q (n + 8193) := ⟨_, rfl⟩
  rw [← eQ]
  have EQ := Lib.hid eQ
  obtain ⟨A, cp, edv⟩ := hr.1.slice
  obtain ⟨wb, ewb⟩ : ∃ wb, wb = w.alloc (.cells #[.int .i64 o.kind, .int .i64 o.blk, .int .i64 o.cnt, .slice A o.data.length cp] 40) := ⟨_, rfl⟩
  have hbw : Below w.heap.size w wb := by rw [ewb]; exact (Below.refl _ _).alloc (Nat.le_refl _) _
  have hbox : Blk wb w.heap.size 40 #[.int .i64 o.kind, .int .i64 o.blk, .int .i64 o.cnt, .slice A o.data.length cp] := by rw [ewb]; exact Blk.new _ _ _
  have hc := tell_7 X wb q d s O r P wh n k nB o (h.keep hbw) (hr.below hbw) hI1 hI2 hb hl hn hk
  have HC : Hid (Calls Tryz.prog 24 #[.pointer (some ⟨q, 0, none⟩), .agg #[.int .i64 o.kind, .int .i64 o.blk, .int .i64 o.cnt, .slice A o.data.length cp]] wb (StepQ X wb q (n + 8193))) := Lib.hid (by rw [← edv]; exact hc)
  have HBW := Lib.hid hbw
  have HBOX := Lib.hid hbox
  have EWB := Lib.hid ewb
  clear eQ h hb hc hbw hbox ewb hl hI1 hI2 hn hr
  obtain ⟨kind, blk, cnt, dv, data⟩ := o
  dsimp only at hk edv HC HBOX EWB
  subst edv
  subst hk
  simp only [OpV.agg]
  obtain ⟨L, eL⟩ : ∃ L, L = data.length := ⟨_, rfl⟩
  rw [← eL] at HC HBOX EWB ⊢
  clear eL
  go_enter Tryz.func12, Tryz.ntmps12
  go_upto_region 1 with (fail)
  rw [← EWB.out]
  obtain ⟨B0, eB0⟩ : ∃ x, x = w.heap.size := ⟨_, rfl⟩
  rw [← eB0] at HBOX ⊢
  clear eB0
  have b0 := HBOX.out.cell 0
  have b1 := HBOX.out.cell 1
  have b2 := HBOX.out.cell 2
  have b3 := HBOX.out.cell 3
  simp only [List.getElem?_toArray, List.getElem?_cons_zero, List.getElem?_cons_succ] at b0 b1 b2 b3
  go_wp2_with fail
  refine HC.out.mono ?_
  intro e w2 hq
  have HF := Lib.hid (show e = .returned (.bool true) ∧ Q e w2 by rw [EQ.out]; exact ⟨hq.1, hq.base HBW.out⟩)
  clear hq HC
  obtain ⟨rfl, hF⟩ := HF.out
  have HF2 := Lib.hid hF
  clear hF HF
  go_wp2_with fail
  first | exact HF2.out | (go_ret; exact HF2.out)
set_option maxHeartbeats 4000000 in
set_option maxRecDepth 100000 in
theorem step_12 (X : Nat → Prop) (w : World) (q d : Nat) (s : DSt) (O : Nat → Prop) (r : Nat) (P : Nat → Prop) (wh : Int) (n : Nat) (k : BkV) (nB : Nat) (o : OpV) (h : PairA X w q d s O r s P wh n k nB) (hr : RdN X w o.dv o.data) (hI1 : I64 o.blk) (hI2 : I64 o.cnt) (hb : BytesL o.data) (hl : o.data.length ≤ 1048576) (hn : n ≤ 10000000000) (hk : o.kind = 12) :
    Calls Tryz.prog 12 #[.pointer (some ⟨q, 0, none⟩), o.agg] w (StepQ X w q (n + 8193)) := by
  obtain ⟨Q, eQ⟩ : ∃ Q, Q = StepQ X w q (n + 8193) := ⟨_, rfl⟩
  rw [← eQ]
  have EQ := Lib.hid eQ
  obtain ⟨A, cp, edv⟩ := hr.1.slice
  obtain ⟨wb, ewb⟩ : ∃ wb, wb = w.alloc (.cells #[.int .i64 o.kind, .int .i64 o.blk, .int .i64 o.cnt, .slice A o.data.length cp] 40) := ⟨_, rfl⟩
  have hbw : Below w.heap.size w wb := by rw [ewb]; exact (Below.refl _ _).alloc (Nat.le_refl _) _
  have hbox : Blk wb w.heap.size 40 #[.int .i64 o.kind, .int .i64 o.blk, .int .i64 o.cnt, .slice A o.data.length cp] := by rw [ewb]; exact Blk.new _ _ _
  have hc := tell_12 X wb q d s O r P wh n k nB o (h.keep hbw) (hr.below hbw) hI1 hI2 hb hl hn hk
  have HC : Hid (Calls Tryz.prog 24 #[.pointer (some ⟨q, 0, none⟩), .agg #[.int .i64 o.kind, .int .i64 o.blk, .int .i64 o.cnt, .slice A o.data.length cp]] wb (StepQ X wb q (n + 8193))) := Lib.hid (by rw [← edv]; exact hc)
  have HBW := Lib.hid hbw
  have HBOX := Lib.hid hbox
  have EWB := Lib.hid ewb
  clear eQ h hb hc hbw hbox ewb hl hI1 hI2 hn hr
  obtain ⟨kind, blk, cnt, dv, data⟩ := o
  dsimp only at hk edv HC HBOX EWB
  subst edv
  subst hk
  simp only [OpV.agg]
  obtain ⟨L, eL⟩ : ∃ L, L = data.length := ⟨_, rfl⟩
  rw [← eL] at HC HBOX EWB ⊢
  clear eL
  go_enter Tryz.func12, Tryz.ntmps12
  go_upto_region 1 with (fail)
  rw [← EWB.out]
  obtain ⟨B0, eB0⟩ : ∃ x, x = w.heap.size := ⟨_, rfl⟩
  rw [← eB0] at HBOX ⊢
  clear eB0
  have b0 := HBOX.out.cell 0
  have b1 := HBOX.out.cell 1
  have b2 := HBOX.out.cell 2
  have b3 := HBOX.out.cell 3
  simp only [List.getElem?_toArray, List.getElem?_cons_zero, List.getElem?_cons_succ] at b0 b1 b2 b3
  go_wp2_with fail
  refine HC.out.mono ?_
  intro e w2 hq
  have HF := Lib.hid (show e = .returned (.bool true) ∧ Q e w2 by rw [EQ.out]; exact ⟨hq.1, hq.base HBW.out⟩)
  clear hq HC
  obtain ⟨rfl, hF⟩ := HF.out
  have HF2 := Lib.hid hF
  clear hF HF
  go_wp2_with fail
  first | exact HF2.out | (go_ret; exact HF2.out)
set_option maxHeartbeats 4000000 in
set_option maxRecDepth 100000 in
theorem step_14 (X : Nat → Prop) (w : World) (q d : Nat) (s : DSt) (O : Nat → Prop) (r : Nat) (P : Nat → Prop) (wh : Int) (n : Nat) (k : BkV) (nB : Nat) (o : OpV) (h : PairA X w q d s O r s P wh n k nB) (hr : RdN X w o.dv o.data) (hI1 : I64 o.blk) (hI2 : I64 o.cnt) (hb : BytesL o.data) (hl : o.data.length ≤ 1048576) (hn : n ≤ 10000000000) (hk : o.kind = 14) :
    Calls Tryz.prog 12 #[.pointer (some ⟨q, 0, none⟩), o.agg] w (StepQ X w q (n + 8193)) := by
  obtain ⟨Q, eQ⟩ : ∃ Q, Q = StepQ X w q (n + 8193) := ⟨_, rfl⟩
  rw [← eQ]
  have EQ := Lib.hid eQ
  obtain ⟨A, cp, edv⟩ := hr.1.slice
  obtain ⟨wb, ewb⟩ : ∃ wb, wb = w.alloc (.cells #[.int .i64 o.kind, .int .i64 o.blk, .int .i64 o.cnt, .slice A o.data.length cp] 40) := ⟨_, rfl⟩
  have hbw : Below w.heap.size w wb := by rw [ewb]; exact (Below.refl _ _).alloc (Nat.le_refl _) _
  have hbox : Blk wb w.heap.size 40 #[.int .i64 o.kind, .int .i64 o.blk, .int .i64 o.cnt, .slice A o.data.length cp] := by rw [ewb]; exact Blk.new _ _ _
  have hc := tell_14 X wb q d s O r P wh n k nB o (h.keep hbw) (hr.below hbw) hI1 hI2 hb hl hn hk
  have HC : Hid (Calls Tryz.prog 24 #[.pointer (some ⟨q, 0, none⟩), .agg #[.int .i64 o.kind, .int .i64 o.blk, .int .i64 o.cnt, .slice A o.data.length cp]] wb (StepQ X wb q (n + 8193))) := Lib.hid (by rw [← edv]; exact hc)
  have HBW := Lib.hid hbw
  have HBOX := Lib.hid hbox
  have EWB := Lib.hid ewb
  clear eQ h hb hc hbw hbox ewb hl hI1 hI2 hn hr
  obtain ⟨kind, blk, cnt, dv, data⟩ := o
  dsimp only at hk edv HC HBOX EWB
  subst edv
  subst hk
  simp only [OpV.agg]
  obtain ⟨L, eL⟩ : ∃ L, L = data.length := ⟨_, rfl⟩
  rw [← eL] at HC HBOX EWB ⊢
  clear eL
  go_enter Tryz.func12, Tryz.ntmps12
  go_upto_region 1 with (fail)
  rw [← EWB.out]
  obtain ⟨B0, eB0⟩ : ∃ x, x = w.heap.size := ⟨_, rfl⟩
  rw [← eB0] at HBOX ⊢
  clear eB0
  have b0 := HBOX.out.cell 0
  have b1 := HBOX.out.cell 1
  have b2 := HBOX.out.cell 2
  have b3 := HBOX.out.cell 3
  simp only [List.getElem?_toArray, List.getElem?_cons_zero, List.getElem?_cons_succ] at b0 b1 b2 b3
  go_wp2_with fail
  refine HC.out.mono ?_
  intro e w2 hq
  have HF := Lib.hid (show e = .returned (.bool true) ∧ Q e w2 by rw [EQ.out]; exact ⟨hq.1, hq.base HBW.out⟩)
  clear hq HC
  obtain ⟨rfl, hF⟩ := HF.out
  have HF2 := Lib.hid hF
  clear hF HF
  go_wp2_with fail
  first | exact HF2.out | (go_ret; exact HF2.out)
set_option maxHeartbeats 4000000 in
set_option maxRecDepth 100000 in
theorem step_15 (X : Nat → Prop) (w : World) (q d : Nat) (s : DSt) (O : Nat → Prop) (r : Nat) (P : Nat → Prop) (wh : Int) (n : Nat) (k : BkV) (nB : Nat) (o : OpV) (h : PairA X w q d s O r s P wh n k nB) (hr : RdN X w o.dv o.data) (hI1 : I64 o.blk) (hI2 : I64 o.cnt) (hb : BytesL o.data) (hl : o.data.length ≤ 1048576) (hn : n ≤ 10000000000) (hk : o.kind = 15) :
    Calls Tryz.prog 12 #[.pointer (some ⟨q, 0, none⟩), o.agg] w (StepQ X w q (n + 8193)) := by
  obtain ⟨Q, eQ⟩ : ∃ Q, Q = StepQ X w q (n + 8193) := ⟨_, rfl⟩
  rw [← eQ]
  have EQ := Lib.hid eQ
  obtain ⟨A, cp, edv⟩ := hr.1.slice
  obtain ⟨wb, ewb⟩ : ∃ wb, wb = w.alloc (.cells #[.int .i64 o.kind, .int .i64 o.blk, .int .i64 o.cnt, .slice A o.data.length cp] 40) := ⟨_, rfl⟩
  have hbw : Below w.heap.size w wb := by rw [ewb]; exact (Below.refl _ _).alloc (Nat.le_refl _) _
  have hbox : Blk wb w.heap.size 40 #[.int .i64 o.kind, .int .i64 o.blk, .int .i64 o.cnt, .slice A o.data.length cp] := by rw [ewb]; exact Blk.new _ _ _
  have hc := tell_15 X wb q d s O r P wh n k nB o (h.keep hbw) (hr.below hbw) hI1 hI2 hb hl hn hk
  have HC : Hid (Calls Tryz.prog 24 #[.pointer (some ⟨q, 0, none⟩), .agg #[.int .i64 o.kind, .int .i64 o.blk, .int .i64 o.cnt, .slice A o.data.length cp]] wb (StepQ X wb q (n + 8193))) := Lib.hid (by rw [← edv]; exact hc)
  have HBW := Lib.hid hbw
  have HBOX := Lib.hid hbox
  have EWB := Lib.hid ewb
  clear eQ h hb hc hbw hbox ewb hl hI1 hI2 hn hr
  obtain ⟨kind, blk, cnt, dv, data⟩ := o
  dsimp only at hk edv HC HBOX EWB
  subst edv
  subst hk
  simp only [OpV.agg]
  obtain ⟨L, eL⟩ : ∃ L, L = data.length := ⟨_, rfl⟩
  rw [← eL] at HC HBOX EWB ⊢
  clear eL
  go_enter Tryz.func12, Tryz.ntmps12
  go_upto_region 1 with (fail)
  rw [← EWB.out]
  obtain ⟨B0, eB0⟩ : ∃ x, x = w.heap.size := ⟨_, rfl⟩
  rw [← eB0] at HBOX ⊢
  clear eB0
  have b0 := HBOX.out.cell 0
  have b1 := HBOX.out.cell 1
  have b2 := HBOX.out.cell 2
  have b3 := HBOX.out.cell 3
  simp only [List.getElem?_toArray, List.getElem?_cons_zero, List.getElem?_cons_succ] at b0 b1 b2 b3
  go_wp2_with fail
  refine HC.out.mono ?_
  intro e w2 hq
  have HF := Lib.hid (show e = .returned (.bool true) ∧ Q e w2 by rw [EQ.out]; exact ⟨hq.1, hq.base HBW.out⟩)
  clear hq HC
  obtain ⟨rfl, hF⟩ := HF.out
  have HF2 := Lib.hid hF
  clear hF HF
  go_wp2_with fail
  first | exact HF2.out | (go_ret; exact HF2.out)
set_option maxHeartbeats 4000000 in
set_option maxRecDepth 100000 in
theorem step_2 (X : Nat → Prop) (w : World) (q d : Nat) (s : DSt) (O : Nat → Prop) (r : Nat) (P : Nat → Prop) (wh : Int) (n : Nat) (k : BkV) (nB : Nat) (o : OpV) (h : PairA X w q d s O r s P wh n k nB) (hr : RdN X w o.dv o.data) (hI1 : I64 o.blk) (hI2 : I64 o.cnt) (hb : BytesL o.data) (hl : o.data.length ≤ 1048576) (hn : n ≤ 10000000000) (hk : o.kind = 2) :
    Calls Tryz.prog 12 #[.pointer (some ⟨q, 0, none⟩), o.agg] w (StepQ X w q (n + 8193)) := by
  obtain ⟨Q, eQ⟩ : ∃ Q, Q = StepQ X w q (n + 8193) := ⟨_, rfl⟩
  rw [← eQ]
  have EQ := Lib.hid eQ
  obtain ⟨A, cp, edv⟩ := hr.1.slice
  obtain ⟨wb, ewb⟩ : ∃ wb, wb = w.alloc (.cells #[.int .i64 o.kind, .int .i64 o.blk, .int .i64 o.cnt, .slice A o.data.length cp] 40) := ⟨_, rfl⟩
  have hbw : Below w.heap.size w wb := by rw [ewb]; exact (Below.refl _ _).alloc (Nat.le_refl _) _
  have hbox : Blk wb w.heap.size 40 #[.int .i64 o.kind, .int .i64 o.blk, .int .i64 o.cnt, .slice A o.data.length cp] := by rw [ewb]; exact Blk.new _ _ _
  have hc := lay_2 X wb q d s O r P wh n k nB o (h.keep hbw) (hr.below hbw) hI1 hI2 hb hl hn hk
  have HC : Hid (Calls Tryz.prog 25 #[.pointer (some ⟨q, 0, none⟩), .agg #[.int .i64 o.kind, .int .i64 o.blk, .int .i64 o.cnt, .slice A o.data.length cp]] wb (StepQ X wb q (n + 8193))) := Lib.hid (by rw [← edv]; exact hc)
  have HBW := Lib.hid hbw
  have HBOX := Lib.hid hbox
  have EWB := Lib.hid ewb
  clear eQ h hb hc hbw hbox ewb hl hI1 hI2 hn hr
  obtain ⟨kind, blk, cnt, dv, data⟩ := o
  dsimp only at hk edv HC HBOX EWB
  subst edv
  subst hk
  simp only [OpV.agg]
  obtain ⟨L, eL⟩ : ∃ L, L = data.length := ⟨_, rfl⟩
  rw [← eL] at HC HBOX EWB ⊢
  clear eL
  go_enter Tryz.func12, Tryz.ntmps12
  go_upto_region 1 with (fail)
  rw [← EWB.out]
  obtain ⟨B0, eB0⟩ : ∃ x, x = w.heap.size := ⟨_, rfl⟩
  rw [← eB0] at HBOX ⊢
  clear eB0
  have b0 := HBOX.out.cell 0
  have b1 := HBOX.out.cell 1
  have b2 := HBOX.out.cell 2
  have b3 := HBOX.out.cell 3
  simp only [List.getElem?_toArray, List.getElem?_cons_zero, List.getElem?_cons_succ] at b0 b1 b2 b3
  go_wp2_with fail
  refine HC.out.mono ?_
  intro e w2 hq
  have HF := Lib.hid (show e = .returned (.bool true) ∧ Q e w2 by rw [EQ.out]; exact ⟨hq.1, hq.base HBW.out⟩)
  clear hq HC
  obtain ⟨rfl, hF⟩ := HF.out
  have HF2 := Lib.hid hF
  clear hF HF
  go_wp2_with fail
  first | exact HF2.out | (go_ret; exact HF2.out)
set_option maxHeartbeats 4000000 in
set_option maxRecDepth 100000 in
theorem step_3 (X : Nat → Prop) (w : World) (q d : Nat) (s : DSt) (O : Nat → Prop) (r : Nat) (P : Nat → Prop) (wh : Int) (n : Nat) (k : BkV) (nB : Nat) (o : OpV) (h : PairA X w q d s O r s P wh n k nB) (hr : RdN X w o.dv o.data) (hI1 : I64 o.blk) (hI2 : I64 o.cnt) (hb : BytesL o.data) (hl : o.data.length ≤ 1048576) (hn : n ≤ 10000000000) (hk : o.kind = 3) :
    Calls Tryz.prog 12 #[.pointer (some ⟨q, 0, none⟩), o.agg] w (StepQ X w q (n + 8193)) := by
  obtain ⟨Q, eQ⟩ : ∃ Q, Q = StepQ X w q (n + 8193) := ⟨_, rfl⟩
  rw [← eQ]
  have EQ := Lib.hid eQ
  obtain ⟨A, cp, edv⟩ := hr.1.slice
  obtain ⟨wb, ewb⟩ : ∃ wb, wb = w.alloc (.cells #[.int .i64 o.kind, .int .i64 o.blk, .int .i64 o.cnt, .slice A o.data.length cp] 40) := ⟨_, rfl⟩
  have hbw : Below w.heap.size w wb := by rw [ewb]; exact (Below.refl _ _).alloc (Nat.le_refl _) _
  have hbox : Blk wb w.heap.size 40 #[.int .i64 o.kind, .int .i64 o.blk, .int .i64 o.cnt, .slice A o.data.length cp] := by rw [ewb]; exact Blk.new _ _ _
  have hc := lay_3 X wb q d s O r P wh n k nB o (h.keep hbw) (hr.below hbw) hI1 hI2 hb hl hn hk
  have HC : Hid (Calls Tryz.prog 25 #[.pointer (some ⟨q, 0, none⟩), .agg #[.int .i64 o.kind, .int .i64 o.blk, .int .i64 o.cnt, .slice A o.data.length cp]] wb (StepQ X wb q (n + 8193))) := Lib.hid (by rw [← edv]; exact hc)
  have HBW := Lib.hid hbw
  have HBOX := Lib.hid hbox
  have EWB := Lib.hid ewb
  clear eQ h hb hc hbw hbox ewb hl hI1 hI2 hn hr
  obtain ⟨kind, blk, cnt, dv, data⟩ := o
  dsimp only at hk edv HC HBOX EWB
  subst edv
  subst hk
  simp only [OpV.agg]
  obtain ⟨L, eL⟩ : ∃ L, L = data.length := ⟨_, rfl⟩
  rw [← eL] at HC HBOX EWB ⊢
  clear eL
  go_enter Tryz.func12, Tryz.ntmps12
  go_upto_region 1 with (fail)
  rw [← EWB.out]
  obtain ⟨B0, eB0⟩ : ∃ x, x = w.heap.size := ⟨_, rfl⟩
  rw [← eB0] at HBOX ⊢
  clear eB0
  have b0 := HBOX.out.cell 0
  have b1 := HBOX.out.cell 1
  have b2 := HBOX.out.cell 2
  have b3 := HBOX.out.cell 3
  simp only [List.getElem?_toArray, List.getElem?_cons_zero, List.getElem?_cons_succ] at b0 b1 b2 b3
  go_wp2_with fail
  refine HC.out.mono ?_
  intro e w2 hq
  have HF := Lib.hid (show e = .returned (.bool true) ∧ Q e w2 by rw [EQ.out]; exact ⟨hq.1, hq.base HBW.out⟩)
  clear hq HC
  obtain ⟨rfl, hF⟩ := HF.out
  have HF2 := Lib.hid hF
  clear hF HF
  go_wp2_with fail
  first | exact HF2.out | (go_ret; exact HF2.out)
set_option maxHeartbeats 4000000 in
set_option maxRecDepth 100000 in
theorem step_4 (X : Nat → Prop) (w : World) (q d : Nat) (s : DSt) (O : Nat → Prop) (r : Nat) (P : Nat → Prop) (wh : Int) (n : Nat) (k : BkV) (nB : Nat) (o : OpV) (h : PairA X w q d s O r s P wh n k nB) (hr : RdN X w o.dv o.data) (hI1 : I64 o.blk) (hI2 : I64 o.cnt) (hb : BytesL o.data) (hl : o.data.length ≤ 1048576) (hn : n ≤ 10000000000) (hk : o.kind = 4) :
    Calls Tryz.prog 12 #[.pointer (some ⟨q, 0, none⟩), o.agg] w (StepQ X w q (n + 8193)) := by
  obtain ⟨Q, eQ⟩ : ∃ Q, Q = StepQ X w q (n + 8193) := ⟨_, rfl⟩
  rw [← eQ]
  have EQ := Lib.hid eQ
  obtain ⟨A, cp, edv⟩ := hr.1.slice
  obtain ⟨wb, ewb⟩ : ∃ wb, wb = w.alloc (.cells #[.int .i64 o.kind, .int .i64 o.blk, .int .i64 o.cnt, .slice A o.data.length cp] 40) := ⟨_, rfl⟩
  have hbw : Below w.heap.size w wb := by rw [ewb]; exact (Below.refl _ _).alloc (Nat.le_refl _) _
  have hbox : Blk wb w.heap.size 40 #[.int .i64 o.kind, .int .i64 o.blk, .int .i64 o.cnt, .slice A o.data.length cp] := by rw [ewb]; exact Blk.new _ _ _
  have hc := act_4 X wb q d s O r P wh n k nB o (h.keep hbw) (hr.below hbw) hI1 hI2 hb hl hn hk
  have HC : Hid (Calls Tryz.prog 26 #[.pointer (some ⟨q, 0, none⟩), .agg #[.int .i64 o.kind, .int .i64 o.blk, .int .i64 o.cnt, .slice A o.data.length cp]] wb (StepQ X wb q (n + 8193))) := Lib.hid (by rw [← edv]; exact hc)
  have HBW := Lib.hid hbw
  have HBOX := Lib.hid hbox
  have EWB := Lib.hid ewb
  clear eQ h hb hc hbw hbox ewb hl hI1 hI2 hn hr
  obtain ⟨kind, blk, cnt, dv, data⟩ := o
  dsimp only at hk edv HC HBOX EWB
  subst edv
  subst hk
  simp only [OpV.agg]
  obtain ⟨L, eL⟩ : ∃ L, L = data.length := ⟨_, rfl⟩
  rw [← eL] at HC HBOX EWB ⊢
  clear eL
  go_enter Tryz.func12, Tryz.ntmps12
  go_upto_region 1 with (fail)
  rw [← EWB.out]
  obtain ⟨B0, eB0⟩ : ∃ x, x = w.heap.size := ⟨_, rfl⟩
  rw [← eB0] at HBOX ⊢
  clear eB0
  have b0 := HBOX.out.cell 0
  have b1 := HBOX.out.cell 1
  have b2 := HBOX.out.cell 2
  have b3 := HBOX.out.cell 3
  simp only [List.getElem?_toArray, List.getElem?_cons_zero, List.getElem?_cons_succ] at b0 b1 b2 b3
  go_wp2_with fail
  refine HC.out.mono ?_
  intro e w2 hq
  have HF := Lib.hid (show e = .returned (.bool true) ∧ Q e w2 by rw [EQ.out]; exact ⟨hq.1, hq.base HBW.out⟩)
  clear hq HC
  obtain ⟨rfl, hF⟩ := HF.out
  have HF2 := Lib.hid hF
  clear hF HF
  go_wp2_with fail
  first | exact HF2.out | (go_ret; exact HF2.out)
set_option maxHeartbeats 4000000 in
set_option maxRecDepth 100000 in
theorem step_5 (X : Nat → Prop) (w : World) (q d : Nat) (s : DSt) (O : Nat → Prop) (r : Nat) (P : Nat → Prop) (wh : Int) (n : Nat) (k : BkV) (nB : Nat) (o : OpV) (h : PairA X w q d s O r s P wh n k nB) (hr : RdN X w o.dv o.data) (hI1 : I64 o.blk) (hI2 : I64 o.cnt) (hb : BytesL o.data) (hl : o.data.length ≤ 1048576) (hn : n ≤ 10000000000) (hk : o.kind = 5) :
    Calls Tryz.prog 12 #[.pointer (some ⟨q, 0, none⟩), o.agg] w (StepQ X w q (n + 8193)) := by
  obtain ⟨Q, eQ⟩ : ∃ Q, Q = StepQ X w q (n + 8193) := ⟨_, rfl⟩
  rw [← eQ]
  have EQ := Lib.hid eQ
  obtain ⟨A, cp, edv⟩ := hr.1.slice
  obtain ⟨wb, ewb⟩ : ∃ wb, wb = w.alloc (.cells #[.int .i64 o.kind, .int .i64 o.blk, .int .i64 o.cnt, .slice A o.data.length cp] 40) := ⟨_, rfl⟩
  have hbw : Below w.heap.size w wb := by rw [ewb]; exact (Below.refl _ _).alloc (Nat.le_refl _) _
  have hbox : Blk wb w.heap.size 40 #[.int .i64 o.kind, .int .i64 o.blk, .int .i64 o.cnt, .slice A o.data.length cp] := by rw [ewb]; exact Blk.new _ _ _
  have hc := act_5 X wb q d s O r P wh n k nB o (h.keep hbw) (hr.below hbw) hI1 hI2 hb hl hn hk
  have HC : Hid (Calls Tryz.prog 26 #[.pointer (some ⟨q, 0, none⟩), .agg #[.int .i64 o.kind, .int .i64 o.blk, .int .i64 o.cnt, .slice A o.data.length cp]] wb (StepQ X wb q (n + 8193))) := Lib.hid (by rw [← edv]; exact hc)
  have HBW := Lib.hid hbw
  have HBOX := Lib.hid hbox
  have EWB := Lib.hid ewb
  clear eQ h hb hc hbw hbox ewb hl hI1 hI2 hn hr
  obtain ⟨kind, blk, cnt, dv, data⟩ := o
  dsimp only at hk edv HC HBOX EWB
  subst edv
  subst hk
  simp only [OpV.agg]
  obtain ⟨L, eL⟩ : ∃ L, L = data.length := ⟨_, rfl⟩
  rw [← eL] at HC HBOX EWB ⊢
  clear eL
  go_enter Tryz.func12, Tryz.ntmps12
  go_upto_region 1 with (fail)
  rw [← EWB.out]
  obtain ⟨B0, eB0⟩ : ∃ x, x = w.heap.size := ⟨_, rfl⟩
  rw [← eB0] at HBOX ⊢
  clear eB0
  have b0 := HBOX.out.cell 0
  have b1 := HBOX.out.cell 1
  have b2 := HBOX.out.cell 2
  have b3 := HBOX.out.cell 3
  simp only [List.getElem?_toArray, List.getElem?_cons_zero, List.getElem?_cons_succ] at b0 b1 b2 b3
  go_wp2_with fail
  refine HC.out.mono ?_
  intro e w2 hq
  have HF := Lib.hid (show e = .returned (.bool true) ∧ Q e w2 by rw [EQ.out]; exact ⟨hq.1, hq.base HBW.out⟩)
  clear hq HC
  obtain ⟨rfl, hF⟩ := HF.out
  have HF2 := Lib.hid hF
  clear hF HF
  go_wp2_with fail
  first | exact HF2.out | (go_ret; exact HF2.out)
set_option maxHeartbeats 4000000 in
set_option maxRecDepth 100000 in
theorem step_10 (X : Nat → Prop) (w : World) (q d : Nat) (s : DSt) (O : Nat → Prop) (r : Nat) (P : Nat → Prop) (wh : Int) (n : Nat) (k : BkV) (nB : Nat) (o : OpV) (h : PairA X w q d s O r s P wh n k nB) (hr : RdN X w o.dv o.data) (hI1 : I64 o.blk) (hI2 : I64 o.cnt) (hb : BytesL o.data) (hl : o.data.length ≤ 1048576) (hn : n ≤ 10000000000) (hk : o.kind = 10) :
    Calls Tryz.prog 12 #[.pointer (some ⟨q, 0, none⟩), o.agg] w (StepQ X w q (n + 8193)) := by
  obtain ⟨Q, eQ⟩ : ∃ Q, Q = StepQ X w q (n + 8193) := ⟨_, rfl⟩
  rw [← eQ]
  have EQ := Lib.hid eQ
  obtain ⟨A, cp, edv⟩ := hr.1.slice
  obtain ⟨wb, ewb⟩ : ∃ wb, wb = w.alloc (.cells #[.int .i64 o.kind, .int .i64 o.blk, .int .i64 o.cnt, .slice A o.data.length cp] 40) := ⟨_, rfl⟩
  have hbw : Below w.heap.size w wb := by rw [ewb]; exact (Below.refl _ _).alloc (Nat.le_refl _) _
  have hbox : Blk wb w.heap.size 40 #[.int .i64 o.kind, .int .i64 o.blk, .int .i64 o.cnt, .slice A o.data.length cp] := by rw [ewb]; exact Blk.new _ _ _
  have hc := act_10 X wb q d s O r P wh n k nB o (h.keep hbw) (hr.below hbw) hI1 hI2 hb hl hn hk
  have HC : Hid (Calls Tryz.prog 26 #[.pointer (some ⟨q, 0, none⟩), .agg #[.int .i64 o.kind, .int .i64 o.blk, .int .i64 o.cnt, .slice A o.data.length cp]] wb (StepQ X wb q (n + 8193))) := Lib.hid (by rw [← edv]; exact hc)
  have HBW := Lib.hid hbw
  have HBOX := Lib.hid hbox
  have EWB := Lib.hid ewb
  clear eQ h hb hc hbw hbox ewb hl hI1 hI2 hn hr
  obtain ⟨kind, blk, cnt, dv, data⟩ := o
  dsimp only at hk edv HC HBOX EWB
  subst edv
  subst hk
  simp only [OpV.agg]
  obtain ⟨L, eL⟩ : ∃ L, L = data.length := ⟨_, rfl⟩
  rw [← eL] at HC HBOX EWB ⊢
  clear eL
  go_enter Tryz.func12, Tryz.ntmps12
  go_upto_region 1 with (fail)
  rw [← EWB.out]
  obtain ⟨B0, eB0⟩ : ∃ x, x = w.heap.size := ⟨_, rfl⟩
  rw [← eB0] at HBOX ⊢
  clear eB0
  have b0 := HBOX.out.cell 0
  have b1 := HBOX.out.cell 1
  have b2 := HBOX.out.cell 2
  have b3 := HBOX.out.cell 3
  simp only [List.getElem?_toArray, List.getElem?_cons_zero, List.getElem?_cons_succ] at b0 b1 b2 b3
  go_wp2_with fail
  refine HC.out.mono ?_
  intro e w2 hq
  have HF := Lib.hid (show e = .returned (.bool true) ∧ Q e w2 by rw [EQ.out]; exact ⟨hq.1, hq.base HBW.out⟩)
  clear hq HC
  obtain ⟨rfl, hF⟩ := HF.out
  have HF2 := Lib.hid hF
  clear hF HF
  go_wp2_with fail
  first | exact HF2.out | (go_ret; exact HF2.out)
set_option maxHeartbeats 4000000 in
set_option maxRecDepth 100000 in
theorem step_11 (X : Nat → Prop) (w : World) (q d : Nat) (s : DSt) (O : Nat → Prop) (r : Nat) (P : Nat → Prop) (wh : Int) (n : Nat) (k : BkV) (nB : Nat) (o : OpV) (h : PairA X w q d s O r s P wh n k nB) (hr : RdN X w o.dv o.data) (hI1 : I64 o.blk) (hI2 : I64 o.cnt) (hb : BytesL o.data) (hl : o.data.length ≤ 1048576) (hn : n ≤ 10000000000) (hk : o.kind = 11) :
    Calls Tryz.prog 12 #[.pointer (some ⟨q, 0, none⟩), o.agg] w (StepQ X w q (n + 8193)) := by
  obtain ⟨Q, eQ⟩ : ∃ Q, Q = StepQ X w q (n + 8193) := ⟨_, rfl⟩
  rw [← eQ]
  have EQ := Lib.hid eQ
  obtain ⟨A, cp, edv⟩ := hr.1.slice
  obtain ⟨wb, ewb⟩ : ∃ wb, wb = w.alloc (.cells #[.int .i64 o.kind, .int .i64 o.blk, .int .i64 o.cnt, .slice A o.data.length cp] 40) := ⟨_, rfl⟩
  have hbw : Below w.heap.size w wb := by rw [ewb]; exact (Below.refl _ _).alloc (Nat.le_refl _) _
  have hbox : Blk wb w.heap.size 40 #[.int .i64 o.kind, .int .i64 o.blk, .int .i64 o.cnt, .slice A o.data.length cp] := by rw [ewb]; exact Blk.new _ _ _
  have hc := act_11 X wb q d s O r P wh n k nB o (h.keep hbw) (hr.below hbw) hI1 hI2 hb hl hn hk
  have HC : Hid (Calls Tryz.prog 26 #[.pointer (some ⟨q, 0, none⟩), .agg #[.int .i64 o.kind, .int .i64 o.blk, .int .i64 o.cnt, .slice A o.data.length cp]] wb (StepQ X wb q (n + 8193))) := Lib.hid (by rw [← edv]; exact hc)
  have HBW := Lib.hid hbw
  have HBOX := Lib.hid hbox
  have EWB := Lib.hid ewb
  clear eQ h hb hc hbw hbox ewb hl hI1 hI2 hn hr
  obtain ⟨kind, blk, cnt, dv, data⟩ := o
  dsimp only at hk edv HC HBOX EWB
  subst edv
  subst hk
  simp only [OpV.agg]
  obtain ⟨L, eL⟩ : ∃ L, L = data.length := ⟨_, rfl⟩
  rw [← eL] at HC HBOX EWB ⊢
  clear eL
  go_enter Tryz.func12, Tryz.ntmps12
  go_upto_region 1 with (fail)
  rw [← EWB.out]
  obtain ⟨B0, eB0⟩ : ∃ x, x = w.heap.size := ⟨_, rfl⟩
  rw [← eB0] at HBOX ⊢
  clear eB0
  have b0 := HBOX.out.cell 0
  have b1 := HBOX.out.cell 1
  have b2 := HBOX.out.cell 2
  have b3 := HBOX.out.cell 3
  simp only [List.getElem?_toArray, List.getElem?_cons_zero, List.getElem?_cons_succ] at b0 b1 b2 b3
  go_wp2_with fail
  refine HC.out.mono ?_
  intro e w2 hq
  have HF := Lib.hid (show e = .returned (.bool true) ∧ Q e w2 by rw [EQ.out]; exact ⟨hq.1, hq.base HBW.out⟩)
  clear hq HC
  obtain ⟨rfl, hF⟩ := HF.out
  have HF2 := Lib.hid hF
  clear hF HF
  go_wp2_with fail
  first | exact HF2.out | (go_ret; exact HF2.out)
set_option maxHeartbeats 4000000 in
set_option maxRecDepth 100000 in
theorem step_13 (X : Nat → Prop) (w : World) (q d : Nat) (s : DSt) (O : Nat → Prop) (r : Nat) (P : Nat → Prop) (wh : Int) (n : Nat) (k : BkV) (nB : Nat) (o : OpV) (h : PairA X w q d s O r s P wh n k nB) (hr : RdN X w o.dv o.data) (hI1 : I64 o.blk) (hI2 : I64 o.cnt) (hb : BytesL o.data) (hl : o.data.length ≤ 1048576) (hn : n ≤ 10000000000) (hk : o.kind = 13) :
    Calls Tryz.prog 12 #[.pointer (some ⟨q, 0, none⟩), o.agg] w (StepQ X w q (n + 8193)) := by
  obtain ⟨Q, eQ⟩ : ∃ Q, Q = StepQ X w q (n + 8193) := ⟨_, rfl⟩
  rw [← eQ]
  have EQ := Lib.hid eQ
  obtain ⟨A, cp, edv⟩ := hr.1.slice
  obtain ⟨wb, ewb⟩ : ∃ wb, wb = w.alloc (.cells #[.int .i64 o.kind, .int .i64 o.blk, .int .i64 o.cnt, .slice A o.data.length cp] 40) := ⟨_, rfl⟩
  have hbw : Below w.heap.size w wb := by rw [ewb]; exact (Below.refl _ _).alloc (Nat.le_refl _) _
  have hbox : Blk wb w.heap.size 40 #[.int .i64 o.kind, .int .i64 o.blk, .int .i64 o.cnt, .slice A o.data.length cp] := by rw [ewb]; exact Blk.new _ _ _
  have hc := act_13 X wb q d s O r P wh n k nB o (h.keep hbw) (hr.below hbw) hI1 hI2 hb hl hn hk
  have HC : Hid (Calls Tryz.prog 26 #[.pointer (some ⟨q, 0, none⟩), .agg #[.int .i64 o.kind, .int .i64 o.blk, .int .i64 o.cnt, .slice A o.data.length cp]] wb (StepQ X wb q (n + 8193))) := Lib.hid (by rw [← edv]; exact hc)
  have HBW := Lib.hid hbw
  have HBOX := Lib.hid hbox
  have EWB := Lib.hid ewb
  clear eQ h hb hc hbw hbox ewb hl hI1 hI2 hn hr
  obtain ⟨kind, blk, cnt, dv, data⟩ := o
  dsimp only at hk edv HC HBOX EWB
  subst edv
  subst hk
  simp only [OpV.agg]
  obtain ⟨L, eL⟩ : ∃ L, L = data.length := ⟨_, rfl⟩
  rw [← eL] at HC HBOX EWB ⊢
  clear eL
  go_enter Tryz.func12, Tryz.ntmps12
  go_upto_region 1 with (fail)
  rw [← EWB.out]
  obtain ⟨B0, eB0⟩ : ∃ x, x = w.heap.size := ⟨_, rfl⟩
  rw [← eB0] at HBOX ⊢
  clear eB0
  have b0 := HBOX.out.cell 0
  have b1 := HBOX.out.cell 1
  have b2 := HBOX.out.cell 2
  have b3 := HBOX.out.cell 3
  simp only [List.getElem?_toArray, List.getElem?_cons_zero, List.getElem?_cons_succ] at b0 b1 b2 b3
  go_wp2_with fail
  refine HC.out.mono ?_
  intro e w2 hq
  have HF := Lib.hid (show e = .returned (.bool true) ∧ Q e w2 by rw [EQ.out]; exact ⟨hq.1, hq.base HBW.out⟩)
  clear hq HC
  obtain ⟨rfl, hF⟩ := HF.out
  have HF2 := Lib.hid hF
  clear hF HF
  go_wp2_with fail
  first | exact HF2.out | (go_ret; exact HF2.out)
set_option maxHeartbeats 4000000 in
set_option maxRecDepth 100000 in
theorem step_else (X : Nat → Prop) (w : World) (q d : Nat) (s : DSt) (O : Nat → Prop) (r : Nat) (P : Nat → Prop) (wh : Int) (n : Nat) (k : BkV) (nB : Nat) (o : OpV) (h : PairA X w q d s O r s P wh n k nB) (hr : RdN X w o.dv o.data) (hI1 : I64 o.blk) (hI2 : I64 o.cnt) (hb : BytesL o.data) (hl : o.data.length ≤ 1048576) (hn : n ≤ 10000000000) (hk1 : o.kind ≠ 1) (hk8 : o.kind ≠ 8) (hk9 : o.kind ≠ 9) (hk6 : o.kind ≠ 6) (hk7 : o.kind ≠ 7) (hk12 : o.kind ≠ 12) (hk14 : o.kind ≠ 14) (hk15 : o.kind ≠ 15) (hk2 : o.kind ≠ 2) (hk3 : o.kind ≠ 3) (hk4 : o.kind ≠ 4) (hk5 : o.kind ≠ 5) (hk10 : o.kind ≠ 10) (hk11 : o.kind ≠ 11) (hk13 : o.kind ≠ 13) :
    Calls Tryz.prog 12 #[.pointer (some ⟨q, 0, none⟩), o.agg] w (StepQ X w q (n + 8193)) := by
  obtain ⟨Q, eQ⟩ : ∃ Q, Q = StepQ X w q (n + 8193) := ⟨_, rfl⟩
  rw [← eQ]
  have EQ := Lib.hid eQ
  obtain ⟨A, cp, edv⟩ := hr.1.slice
  obtain ⟨wb, ewb⟩ : ∃ wb, wb = w.alloc (.cells #[.int .i64 o.kind, .int .i64 o.blk, .int .i64 o.cnt, .slice A o.data.length cp] 40) := ⟨_, rfl⟩
  have hbw : Below w.heap.size w wb := by rw [ewb]; exact (Below.refl _ _).alloc (Nat.le_refl _) _
  have hbox : Blk wb w.heap.size 40 #[.int .i64 o.kind, .int .i64 o.blk, .int .i64 o.cnt, .slice A o.data.length cp] := by rw [ewb]; exact Blk.new _ _ _
  have hc := act_else X wb q d s O r P wh n k nB o (h.keep hbw) (hr.below hbw) hI1 hI2 hb hl hn hk4 hk5 hk10 hk11 hk13
  have HC : Hid (Calls Tryz.prog 26 #[.pointer (some ⟨q, 0, none⟩), .agg #[.int .i64 o.kind, .int .i64 o.blk, .int .i64 o.cnt, .slice A o.data.length cp]] wb (StepQ X wb q (n + 8193))) := Lib.hid (by rw [← edv]; exact hc)
  have HBW := Lib.hid hbw
  have HBOX := Lib.hid hbox
  have EWB := Lib.hid ewb
  clear eQ h hb hc hbw hbox ewb hl hI1 hI2 hn hr
  obtain ⟨kind, blk, cnt, dv, data⟩ := o
  dsimp only at hk1 hk8 hk9 hk6 hk7 hk12 hk14 hk15 hk2 hk3 hk4 hk5 hk10 hk11 hk13 edv HC HBOX EWB
  subst edv
  have t1 : (kind == 1) = false := by simpa using hk1
  have t8 : (kind == 8) = false := by simpa using hk8
  have t9 : (kind == 9) = false := by simpa using hk9
  have t6 : (kind == 6) = false := by simpa using hk6
  have t7 : (kind == 7) = false := by simpa using hk7
  have t12 : (kind == 12) = false := by simpa using hk12
  have t14 : (kind == 14) = false := by simpa using hk14
  have t15 : (kind == 15) = false := by simpa using hk15
  have t2 : (kind == 2) = false := by simpa using hk2
  have t3 : (kind == 3) = false := by simpa using hk3
  have t4 : (kind == 4) = false := by simpa using hk4
  have t5 : (kind == 5) = false := by simpa using hk5
  have t10 : (kind == 10) = false := by simpa using hk10
  have t11 : (kind == 11) = false := by simpa using hk11
  have t13 : (kind == 13) = false := by simpa using hk13
  clear hk1 hk8 hk9 hk6 hk7 hk12 hk14 hk15 hk2 hk3 hk4 hk5 hk10 hk11 hk13
  simp only [OpV.agg]
  obtain ⟨L, eL⟩ : ∃ L, L = data.length := ⟨_, rfl⟩
  rw [← eL] at HC HBOX EWB ⊢
  clear eL
  go_enter Tryz.func12, Tryz.ntmps12
  go_upto_region 1 with (fail)
  rw [← EWB.out]
  obtain ⟨B0, eB0⟩ : ∃ x, x = w.heap.size := ⟨_, rfl⟩
  rw [← eB0] at HBOX ⊢
  clear eB0
  have b0 := HBOX.out.cell 0
  have b1 := HBOX.out.cell 1
  have b2 := HBOX.out.cell 2
  have b3 := HBOX.out.cell 3
  simp only [List.getElem?_toArray, List.getElem?_cons_zero, List.getElem?_cons_succ] at b0 b1 b2 b3
  go_wp2_with fail
  refine HC.out.mono ?_
  intro e w2 hq
  have HF := Lib.hid (show e = .returned (.bool true) ∧ Q e w2 by rw [EQ.out]; exact ⟨hq.1, hq.base HBW.out⟩)
  clear hq HC
  obtain ⟨rfl, hF⟩ := HF.out
  have HF2 := Lib.hid hF
  clear hF HF
  go_wp2_with fail
  first | exact HF2.out | (go_ret; exact HF2.out)
/-- One call, played on both: they answer alike. -/
theorem step_ok (X : Nat → Prop) (w : World) (q d : Nat) (s : DSt) (O : Nat → Prop) (r : Nat) (P : Nat → Prop) (wh : Int) (n : Nat) (k : BkV) (nB : Nat) (o : OpV) (h : PairA X w q d s O r s P wh n k nB) (hr : RdN X w o.dv o.data) (hI1 : I64 o.blk) (hI2 : I64 o.cnt) (hb : BytesL o.data) (hl : o.data.length ≤ 1048576) (hn : n ≤ 10000000000) :
    Calls Tryz.prog 12 #[.pointer (some ⟨q, 0, none⟩), o.agg] w (StepQ X w q (n + 8193)) := by
  by_cases h1 : o.kind = 1
  · exact step_1 X w q d s O r P wh n k nB o h hr hI1 hI2 hb hl hn h1
  by_cases h8 : o.kind = 8
  · exact step_8 X w q d s O r P wh n k nB o h hr hI1 hI2 hb hl hn h8
  by_cases h9 : o.kind = 9
  · exact step_9 X w q d s O r P wh n k nB o h hr hI1 hI2 hb hl hn h9
  by_cases h6 : o.kind = 6
  · exact step_6 X w q d s O r P wh n k nB o h hr hI1 hI2 hb hl hn h6
  by_cases h7 : o.kind = 7
  · exact step_7 X w q d s O r P wh n k nB o h hr hI1 hI2 hb hl hn h7
  by_cases h12 : o.kind = 12
  · exact step_12 X w q d s O r P wh n k nB o h hr hI1 hI2 hb hl hn h12
  by_cases h14 : o.kind = 14
  · exact step_14 X w q d s O r P wh n k nB o h hr hI1 hI2 hb hl hn h14
  by_cases h15 : o.kind = 15
  · exact step_15 X w q d s O r P wh n k nB o h hr hI1 hI2 hb hl hn h15
  by_cases h2 : o.kind = 2
  · exact step_2 X w q d s O r P wh n k nB o h hr hI1 hI2 hb hl hn h2
  by_cases h3 : o.kind = 3
  · exact step_3 X w q d s O r P wh n k nB o h hr hI1 hI2 hb hl hn h3
  by_cases h4 : o.kind = 4
  · exact step_4 X w q d s O r P wh n k nB o h hr hI1 hI2 hb hl hn h4
  by_cases h5 : o.kind = 5
  · exact step_5 X w q d s O r P wh n k nB o h hr hI1 hI2 hb hl hn h5
  by_cases h10 : o.kind = 10
  · exact step_10 X w q d s O r P wh n k nB o h hr hI1 hI2 hb hl hn h10
  by_cases h11 : o.kind = 11
  · exact step_11 X w q d s O r P wh n k nB o h hr hI1 hI2 hb hl hn h11
  by_cases h13 : o.kind = 13
  · exact step_13 X w q d s O r P wh n k nB o h hr hI1 hI2 hb hl hn h13
  exact step_else X w q d s O r P wh n k nB o h hr hI1 hI2 hb hl hn h1 h8 h9 h6 h7 h12 h14 h15 h2 h3 h4 h5 h10 h11 h13
end Go.Proofs.YtigfcoibbmndpaaGreat
