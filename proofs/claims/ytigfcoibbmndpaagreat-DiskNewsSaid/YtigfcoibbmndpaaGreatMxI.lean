/- Joined of the texts LxQ RowV. -/
import Derived.Test.YtigfcoibbmndpaaGreatMxG
import Derived.Outline
import Derived.Test.YtigfcoibbmndpaaGreatMxH
/- The law of a disk just made: five questions, true. Printed by wip/tools/gen_ln.py. -/
namespace Go.Proofs.YtigfcoibbmndpaaGreat
open Go.RowKit
open Go.ChangeMaps
set_option linter.unusedVariables false
set_option linter.unusedSimpArgs false
theorem rdN_none (X : Nat → Prop) (w : World) : RdN X w (.slice none 0 0) [] := by
  refine ⟨.inl ⟨rfl, _, _, rfl⟩, ?_⟩
  intro b1 off1 n1 c1 he
  simp at he
theorem ask_ok (X : Nat → Prop) (w : World) (q n : Nat) (kd : Int) (h : PairR X w q n) (hn : n ≤ 10000000000) :
    Calls Tryz.prog 12 #[.pointer (some ⟨q, 0, none⟩), .agg #[.int .i64 kd, .int .i64 0, .int .i64 0, .slice none 0 0]] w (StepQ X w q (n + 8193)) := by
  obtain ⟨d, s, O, r, P, wh, k, nB, ha⟩ := h
  exact step_ok X w q d s O r P wh n k nB ⟨kd, 0, 0, .slice none 0 0, []⟩ ha (rdN_none _ _) (show I64 0 by decide) (show I64 0 by decide) (fun x hx => (List.not_mem_nil hx).elim) (Nat.zero_le _) hn
set_option maxHeartbeats 4000000 in
set_option maxRecDepth 100000 in
theorem news_law (w : World) (m : MadeV) (hr : Rd .u8 w m.iv m.img) (hml : m.img.length ≤ 140737488351232) :
    Calls Tryz.prog 3 #[m.agg] w fun e w' => e = .returned (.bool true) ∧ Below w.heap.size w w' := by
  obtain ⟨Q, eQ⟩ : ∃ Q : Ending → World → Prop, Q = fun e w' => e = .returned (.bool true) ∧ Below w.heap.size w w' := ⟨_, rfl⟩
  rw [← eQ]
  have EQ := Lib.hid eQ
  obtain ⟨wb, ewb⟩ : ∃ wb, wb = w.alloc (.cells #[.bool m.load, .int .i64 m.nb, .int .i64 m.sz, m.iv] 24) := ⟨_, rfl⟩
  have hbw : Below w.heap.size w wb := by rw [ewb]; exact (Below.refl _ _).alloc (Nat.le_refl _) _
  have hbox : Blk wb w.heap.size 24 #[.bool m.load, .int .i64 m.nb, .int .i64 m.sz, m.iv] := by rw [ewb]; exact Blk.new _ _ _
  have hmd := made_ok wb m (hr.below hbw) hml
  obtain ⟨Ai, ci, eiv⟩ := hr.slice
  have HBW := Lib.hid hbw
  have HBOX := Lib.hid hbox
  have HMD := Lib.hid hmd
  have EWB := Lib.hid ewb
  clear eQ hr hml hbw hbox hmd ewb
  obtain ⟨load, nb, sz, iv, img⟩ := m
  dsimp only at eiv HBOX EWB HMD
  subst eiv
  simp only [MadeV.agg] at HMD ⊢
  go_enter Tryz.func3, Tryz.ntmps3
  go_upto_region 1 with (fail)
  rw [← EWB.out]
  obtain ⟨B1, eB1⟩ : ∃ x, x = w.heap.size := ⟨_, rfl⟩
  rw [← eB1] at HBOX ⊢
  have EB1 := Lib.hid eB1
  clear eB1
  have b0 := HBOX.out.cell 0
  have b1 := HBOX.out.cell 1
  have b2 := HBOX.out.cell 2
  have b3 := HBOX.out.cell 3
  simp only [List.getElem?_toArray, List.getElem?_cons_zero, List.getElem?_cons_succ] at b0 b1 b2 b3
  go_wp2_with fail
  refine HMD.out.mono ?_
  rintro e w2 ⟨q, rfl, hb2, hq, hcase⟩
  have hbb : Below w.heap.size w w2 := HBW.out.trans (hb2.mono HBW.out.size)
  have HB2 := Lib.hid hbb
  have hqw : w.heap.size ≤ q := Nat.le_trans HBW.out.size hq
  clear HMD b0 b1 b2 b3 hb2 hbb hq
  rcases hcase with ⟨X, hpr, hX⟩ | hz
  · have hX2 : ∀ b, X b → w.heap.size ≤ b := fun b hb => Nat.le_trans HBW.out.size (hX b hb)
    have c0 : ∃ d, w2.cell? ⟨q, 0, none⟩ = some (.pointer (some ⟨d, 0, none⟩)) := by
      obtain ⟨d, s, O, r, P, wh, k, nB, ha⟩ := id hpr
      exact ⟨d, ha.blk.cell 0⟩
    obtain ⟨d, c0⟩ := c0
    have HST := Lib.hid (ask_ok X w2 q 0 15 hpr (by omega))
    have HX2 := Lib.hid hX2
    clear hpr hX hX2
    go_wp2_with fail
    clear c0
    refine HST.out.mono ?_
    rintro e w3 ⟨rfl, hon, X3, hpr, hXn⟩
    have HX3 := Lib.hid (show ∀ b, X3 b → w.heap.size ≤ b from fun b hb => (hXn b hb).elim (HX2.out b) (fun h => Nat.le_trans HB2.out.size h))
    have HB3 := Lib.hid (show Below w.heap.size w w3 from HB2.out.trans (hon.below HB2.out.size HX2.out))
    clear HST
    have HST := Lib.hid (ask_ok X3 w3 q _ 9 hpr (by omega))
    clear hon hpr hXn
    go_wp2_with fail
    refine HST.out.mono ?_
    rintro e w4 ⟨rfl, hon, X4, hpr, hXn⟩
    have HX4 := Lib.hid (show ∀ b, X4 b → w.heap.size ≤ b from fun b hb => (hXn b hb).elim (HX3.out b) (fun h => Nat.le_trans HB3.out.size h))
    have HB4 := Lib.hid (show Below w.heap.size w w4 from HB3.out.trans (hon.below HB3.out.size HX3.out))
    clear HST
    have HST := Lib.hid (ask_ok X4 w4 q _ 6 hpr (by omega))
    clear hon hpr hXn
    go_wp2_with fail
    refine HST.out.mono ?_
    rintro e w5 ⟨rfl, hon, X5, hpr, hXn⟩
    have HX5 := Lib.hid (show ∀ b, X5 b → w.heap.size ≤ b from fun b hb => (hXn b hb).elim (HX4.out b) (fun h => Nat.le_trans HB4.out.size h))
    have HB5 := Lib.hid (show Below w.heap.size w w5 from HB4.out.trans (hon.below HB4.out.size HX4.out))
    clear HST
    have HST := Lib.hid (ask_ok X5 w5 q _ 12 hpr (by omega))
    clear hon hpr hXn
    go_wp2_with fail
    refine HST.out.mono ?_
    rintro e w6 ⟨rfl, hon, X6, hpr, hXn⟩
    have HX6 := Lib.hid (show ∀ b, X6 b → w.heap.size ≤ b from fun b hb => (hXn b hb).elim (HX5.out b) (fun h => Nat.le_trans HB5.out.size h))
    have HB6 := Lib.hid (show Below w.heap.size w w6 from HB5.out.trans (hon.below HB5.out.size HX5.out))
    clear HST
    have HST := Lib.hid (ask_ok X6 w6 q _ 14 hpr (by omega))
    clear hon hpr hXn
    go_wp2_with fail
    refine HST.out.mono ?_
    rintro e w7 ⟨rfl, hon, X7, hpr, hXn⟩
    have HX7 := Lib.hid (show ∀ b, X7 b → w.heap.size ≤ b from fun b hb => (hXn b hb).elim (HX6.out b) (fun h => Nat.le_trans HB6.out.size h))
    have HB7 := Lib.hid (show Below w.heap.size w w7 from HB6.out.trans (hon.below HB6.out.size HX6.out))
    have HF := Lib.hid (show Q (.returned (.bool true)) w7 by rw [EQ.out]; exact ⟨rfl, HB7.out⟩)
    clear hon hpr hXn HST
    go_wp2_with fail
    first | exact HF.out | (go_ret; exact HF.out)
  · have c0 : w2.cell? ⟨q, 0, none⟩ = some (.pointer none) := hz.cell 0
    have HF := Lib.hid (show Q (.returned (.bool true)) w2 by rw [EQ.out]; exact ⟨rfl, HB2.out⟩)
    clear hz
    go_wp2_with fail
    first | exact HF.out | (go_ret; exact HF.out)
end Go.Proofs.YtigfcoibbmndpaaGreat
/- What a disk is made of, its image no longer than a machine's memory reaches. -/
namespace Go.Proofs.YtigfcoibbmndpaaGreat
open Go.ChangeShapes Go.WideShapes Go.ChangeAt Go.RowKit Go.Deep
set_option linter.unusedVariables false
set_option linter.unusedSimpArgs false
section
variable {H : Type} {enc : TypeId × Value → H} {P : Program} {W : World} {base : Nat} {held : Bool}
theorem bytes_weigh {t e : TypeId} {fuel : Nat} {v : Value} {y : DataW H × List MemPlace} (hu : P.underlying t = some (.slice e)) (he : P.underlying e = some (.int .u8)) (hc : P.cellsOf e = 1) (hB : P.bytesOf e = 1)
    (h : DataW.trod enc P W base (fun _ => true) held fuel t [v] = some y) : ∃ zs, Rd .u8 W v zs ∧ (zs = [] ∨ ∃ n ∈ y.1.weights P t, zs.length ≤ n) := by
  rcases open_ints hu he hc h with ⟨hcs, _⟩ | ⟨x, l, c, zs, hcs, _, hl, hm, hz, hx, hcell, hwz⟩
  · simp at hcs
    subst hcs
    exact ⟨[], .inl ⟨rfl, _, _, rfl⟩, .inl rfl⟩
  · simp at hcs
    subst hcs
    simp only [if_true] at hz
    refine ⟨zs.take l, rd_of_cells hl hz hcell, .inr ⟨((lits (H := H) .u8 (zs.take l)).length + (lits (H := H) .u8 (zs.drop l)).length) * P.bytesOf e, ?_, ?_⟩⟩
    · rw [hx]
      simp [DataW.weights, hu]
    · rw [hB]
      unfold lits
      rw [List.length_map]
      omega
/-- What a disk is made of. -/
theorem made_weigh {t : TypeId} {f0 f1 f2 f3 : Field} {q : TypeId} {v : Value} {d : DataW H} {ps : List MemPlace} {r : Reach} {b0 : Nat} {ts : List TypeId} {ds : List (DataW H)} {j : Nat}
    (hsz : (DataW.weightsEach P ts ds).all (· ≤ reachBytes) = true) (ht : ts[j]? = some t) (hd : ds[j]? = some d)
    (hv : Value.okWide P W r b0 t v)
    (he : P.underlying t = some (.struct #[f0, f1, f2, f3])) (ce : P.cellsOf t = 4)
    (o0 : f0.offset = 0) (o1 : f1.offset = 1) (o2 : f2.offset = 2) (o3 : f3.offset = 3) (c0 : P.cellsOf f0.type = 1) (c1 : P.cellsOf f1.type = 1) (c2 : P.cellsOf f2.type = 1) (c3 : P.cellsOf f3.type = 1)
    (u0 : P.underlying f0.type = some .bool) (u1 : P.underlying f1.type = some (.int .i64)) (u2 : P.underlying f2.type = some (.int .i64)) (u3 : P.underlying f3.type = some (.slice q)) (uq : P.underlying q = some (.int .u8)) (cq : P.cellsOf q = 1) (bq : P.bytesOf q = 1)
    (h : DataW.Trod enc P W base (fun _ => true) held t v d ps) : ∃ m : MadeV, v = m.agg ∧ Rd .u8 W m.iv m.img ∧ m.img.length ≤ 140737488351232 := by
  have hrb : reachBytes = 140737488351232 := by decide
  obtain ⟨cs, rfl, hsz'⟩ := okWide_struct he hv
  obtain ⟨fuel, hf⟩ := h
  simp only [Value.cells] at hf
  have hl : cs.toList.length = 4 := by rw [Array.length_toList, hsz', ce]
  obtain ⟨xs, k, _, hDi, _, hxl, hfl⟩ := DataW.trod_struct he hf
  obtain ⟨l, el⟩ : ∃ l, l = cs.toList := ⟨_, rfl⟩
  rw [← el] at hl hfl
  match xs, hxl, l, hl with
  | [y0, y1, y2, y3], _, [v0, v1, v2, v3], _ =>
    have g0 := hfl 0 f0 rfl
    have g1 := hfl 1 f1 rfl
    have g2 := hfl 2 f2 rfl
    have g3 := hfl 3 f3 rfl
    simp [o0, o1, o2, o3, c0, c1, c2, c3] at g0 g1 g2 g3
    obtain ⟨bo, rfl⟩ := bool_of_trod u0 g0
    obtain ⟨nb, rfl, _⟩ := int_of_trod u1 g1
    obtain ⟨nc, rfl, _⟩ := int_of_trod u2 g2
    obtain ⟨zs, hr, hn⟩ := bytes_weigh u3 uq cq bq g3
    refine ⟨⟨bo, nb, nc, v3, zs⟩, ?_, hr, ?_⟩
    · unfold MadeV.agg
      rw [← Array.toArray_toList (xs := cs), ← el]
    · have hD : d = DataW.agg [y0.1, y1.1, y2.1, y3.1] := (Prod.mk.inj hDi).1
      rcases hn with rfl | ⟨n, hn, hzn⟩
      · exact Nat.zero_le _
      · have h1 : n ∈ DataW.weightsEach P [f0.type, f1.type, f2.type, f3.type] [y0.1, y1.1, y2.1, y3.1] :=
          DataW.weights_mem_each (j := 3) rfl rfl n hn
        have h2 : n ∈ d.weights P t := by rw [hD]; simpa [DataW.weights, he] using h1
        have h3 := List.all_eq_true.1 hsz n (DataW.weights_mem_each ht hd n h2)
        have h4 : n ≤ reachBytes := of_decide_eq_true h3
        show zs.length ≤ _
        omega
end
end Go.Proofs.YtigfcoibbmndpaaGreat
