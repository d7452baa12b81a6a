/- Choose, the program's and the document's: the law's walk. -/
import Derived.Test.YtjcinelcocmpnaaDoorUnsL
import Derived.Test.YtjcinelcocmpnaaDoorRefL
namespace Go.Proofs.YtjcinelcocmpnaaDoor
open Go.RowKit
set_option linter.unusedVariables false
set_option linter.unusedSimpArgs false
set_option maxHeartbeats 4000000 in
set_option maxRecDepth 100000 in
theorem chooses_law (ks : List Int) (S : St) (v1 v2 : Value) (xs ys : List Int) (w : World) (hT : Tab (fun i => ks.getD i 0) S w) (hTR : TabR ks S w) (hks : ks.length = 64) (hr : Rd .u8 w v1 xs) (hb : Bytes xs) (hm : xs.length ≤ 140737488351232) (hr2 : Rd .u8 w v2 ys) (hb2 : Bytes ys) (hm2 : ys.length ≤ 140737488351232) :
    Calls Tryd.prog 5 #[v1, v2] w (DoneT w) := by
  have hhd := hand_ok v1 xs w hr hm
  have HT := Lib.hid hT
  have HTR := Lib.hid hTR
  have HKS := Lib.hid hks
  have HB := Lib.hid hb
  have HB' := Lib.hid hb2
  have HR := Lib.hid hr
  have HR' := Lib.hid hr2
  obtain ⟨A, c, rfl⟩ := hr.slice
  obtain ⟨A', c', rfl⟩ := hr2.slice
  obtain ⟨L, eL⟩ : ∃ L, L = xs.length := ⟨_, rfl⟩
  obtain ⟨L', eL'⟩ : ∃ L, L = ys.length := ⟨_, rfl⟩
  have HL := Lib.hid eL
  have HL' := Lib.hid eL'
  obtain ⟨q, eq⟩ : ∃ q, q = chF (unF (fun i => ks.getD i 0) S xs) (unF (fun i => ks.getD i 0) S ys) := ⟨_, rfl⟩
  have EQ := Lib.hid eq
  obtain ⟨s, n0, e0⟩ := q
  obtain ⟨H, eH⟩ : ∃ H, H = HandQ w xs := ⟨_, rfl⟩
  rw [← eH] at hhd
  rw [← eL] at hhd hm ⊢
  rw [← eL'] at hm2 ⊢
  have HHD := Lib.hid hhd
  have EH := Lib.hid eH
  clear hT hTR hks hb eL eq hhd eH hb2 eL' hr hr2
  go_enter Tryd.func5, Tryd.ntmps5
  go_wp2_with fail
  refine HHD.out.mono ?_
  rw [EH.out]
  rintro e w1 ⟨rfl, hb1, hrow⟩
  rw [← HL.out]
  have hhd := hand_ok _ ys w1 (HR'.out.below hb1) (by rw [← HL'.out]; exact hm2)
  obtain ⟨H', eH⟩ : ∃ H, H = HandQ w1 ys := ⟨_, rfl⟩
  rw [← eH, ← HL'.out] at hhd
  have HHD' := Lib.hid hhd
  have EH' := Lib.hid eH
  have HROW := Lib.hid hrow
  have HB1 := Lib.hid hb1
  have hgl1 := hrow.lt
  clear hhd eH hrow hb1 HHD EH
  go_wp2_with fail
  refine HHD'.out.mono ?_
  rw [EH'.out]
  rintro e w2 ⟨rfl, hb2, hrow⟩
  rw [← HL'.out]
  have hbw : Below w.heap.size w w2 := HB1.out.trans (hb2.mono HB1.out.size)
  have hrow1 := HROW.out.below hb2 HROW.out.lt
  have hx1 : Rd .u8 w2 (.slice A xs.length c) xs := HR.out.below hbw
  have hy1 : Rd .u8 w2 (.slice A' ys.length c') ys := HR'.out.below hbw
  have hxa := argV_rd hx1 hrow1
  have hya := argV_rd hy1 hrow
  rw [← HL.out] at hx1 hxa
  rw [← HL'.out] at hy1 hya
  have hgl2 : w.heap.size < w2.heap.size := hrow1.lt
  have hgl3 : w1.heap.size < w2.heap.size := hrow.lt
  have hch := choose_ok _ _ _ _ w2 (fun w3 h3 => unseal_ok (fun i => ks.getD i 0) S _ xs w3 (HT.out.belowS (hbw.trans (h3.mono hbw.size))) (hxa.below h3) HB.out) (fun w3 h3 => unseal_ok (fun i => ks.getD i 0) S _ ys w3 (HT.out.belowS (hbw.trans (h3.mono hbw.size))) (hya.below h3) HB'.out)
  rw [← EQ.out] at hch
  have HCH := Lib.hid hch
  have HBW := Lib.hid hbw
  have HROW1 := Lib.hid hrow1
  have HROW2 := Lib.hid hrow
  have HX1 := Lib.hid hx1
  have HY1 := Lib.hid hy1
  clear hch hbw hrow1 hrow hx1 hy1 hxa hya hb2 HHD' EH' HROW HB1
  go_wp2_with fail
  refine (arg_ok _ L c A _ hm).mono ?_
  rintro e w' ⟨rfl, rfl⟩
  go_wp2_with fail
  refine (arg_ok _ L' c' A' _ hm2).mono ?_
  rintro e w' ⟨rfl, rfl⟩
  go_wp2_with fail
  refine HCH.out.mono ?_
  rintro e w3 ⟨rfl, hb3⟩
  simp only [Sup.arr]
  have hba := hb3.alloc hb3.size (.cells s.arr 27)
  have hA : Blk (w3.alloc (.cells s.arr 27)) w3.heap.size 27 s.arr := Blk.newAt _ _ _ _ rfl
  obtain ⟨w4, ew4⟩ : ∃ w4, w4 = w3.alloc (.cells s.arr 27) := ⟨_, rfl⟩
  rw [← ew4] at hba hA
  have hbw4 : Below w.heap.size w w4 := HBW.out.trans (hba.mono HBW.out.size)
  have hru := rchoose_ok (unF (fun i => ks.getD i 0) S xs) (unF (fun i => ks.getD i 0) S ys) (.slice A L c) (.slice A' L' c') w4 (fun w5 h5 => runseal_ok ks S _ xs w5 (HTR.out.below (hbw4.trans (h5.mono hbw4.size))) HKS.out ((HX1.out.below hba).below h5) HB.out) (fun w5 h5 => runseal_ok ks S _ ys w5 (HTR.out.below (hbw4.trans (h5.mono hbw4.size))) HKS.out ((HY1.out.below hba).below h5) HB'.out)
  rw [← EQ.out] at hru
  simp only [Sup.arr] at ew4
  have EW4 := Lib.hid ew4
  have HRU := Lib.hid hru
  have HBA := Lib.hid hba
  have HA := Lib.hid hA
  clear ew4 hru hba hA hb3 hbw4 HCH
  go_wp2_with fail
  rw [← EW4.out]
  refine HRU.out.mono ?_
  rintro e w5 ⟨rfl, hb5⟩
  simp only [Sup.arr]
  have hA5 : Blk w5 w3.heap.size 27 s.arr := HA.out.below hb5 HA.out.lt
  have hlt5 := hA5.lt
  obtain ⟨w6, ew6⟩ : ∃ w6, w6 = w5.alloc (.cells s.arr 27) := ⟨_, rfl⟩
  have hbl5 : Below w2.heap.size w2 w5 := HBA.out.trans (hb5.mono HBA.out.size)
  have hb6 : Below w2.heap.size w2 w6 := by rw [ew6]; exact hbl5.alloc hbl5.size _
  have hun1 : Calls Tryd.prog 18 #[.slice (some ⟨w.heap.size, 0, none⟩) (L + 6) (L + 6), .slice A L c] w6 (SameP w6 true) := by
    have := untouched_ok w.heap.size (.slice A L c) xs w6 (HX1.out.below hb6) (by rw [← HL.out]; exact hm) (HROW1.out.below hb6 HROW1.out.lt)
    rw [← HL.out] at this; exact this
  have hun2 : ∀ m, Calls Tryd.prog 18 #[.slice (some ⟨w1.heap.size, 0, none⟩) (L' + 6) (L' + 6), .slice A' L' c'] (w6.drewN m) (SameP (w6.drewN m) true) := fun m => by
    have := untouched_ok w1.heap.size (.slice A' L' c') ys (w6.drewN m) (show Rd .u8 w6 _ ys from HY1.out.below hb6) (by rw [← HL'.out]; exact hm2) ((HROW2.out.below hb6 HROW2.out.lt).drewN m)
    rw [← HL'.out] at this; exact this
  have b0 := hA5.cell 0
  have b1 := hA5.cell 1
  have b2 := hA5.cell 2
  have b3 := hA5.cell 3
  have b4 := hA5.cell 4
  have b5 := hA5.cell 5
  have b6 := hA5.cell 6
  have b7 := hA5.cell 7
  have b8 := hA5.cell 8
  have b9 := hA5.cell 9
  simp only [Sup.arr, List.getElem?_toArray, List.getElem?_cons_zero, List.getElem?_cons_succ] at b0 b1 b2 b3 b4 b5 b6 b7 b8 b9 ew6
  have hfin : ∀ m, DoneT w (.returned (.bool true)) (w6.drewN m) := fun m => ⟨rfl, below_drewN (HBW.out.trans (hb6.mono HBW.out.size)) m⟩
  have HUT := Lib.hid hun1
  have HUT2 := Lib.hid hun2
  have HFin := Lib.hid hfin
  have EW6 := Lib.hid ew6
  clear hun1 hun2 hfin hA5 hb5 hbl5 hb6 ew6 HA HBA HRU
  have te : (e0 == e0) = true := by simp
  have tn : (n0 == n0) = true := by simp
  go_wp2_with fail
  rw [← EW6.out]
  refine HUT.out.mono ?_
  rintro e w7 ⟨m, rfl, rfl⟩
  go_wp2_with fail
  refine (HUT2.out m).mono ?_
  rintro e w7 ⟨k, rfl, rfl⟩
  go_wp2_with fail
  go_ret
  exact HFin.out _
end Go.Proofs.YtjcinelcocmpnaaDoor
