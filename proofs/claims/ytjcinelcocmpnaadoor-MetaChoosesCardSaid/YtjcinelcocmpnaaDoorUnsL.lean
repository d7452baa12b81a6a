/- Unseal, the program's and the document's: the law's walk. -/
import Derived.Test.YtjcinelcocmpnaaDoorRefN
import Derived.Test.YtjcinelcocmpnaaDoorLawA
import Derived.Test.YtjcinelcocmpnaaDoorTouchU
namespace Go.Proofs.YtjcinelcocmpnaaDoor
open Go.RowKit
set_option linter.unusedVariables false
set_option linter.unusedSimpArgs false
theorem argV_rd {w : World} {g : Nat} {v : Value} {zs : List Int} (h : Rd .u8 w v zs) (hg : RowA .u8 5 w g (zs.length + 6) (handF zs 6)) : Rd .u8 w (argV g v zs.length) zs := by
  obtain ⟨A, c, rfl⟩ := h.slice
  cases A
  · rcases h with ⟨rfl, _⟩ | ⟨b, off, c', e, _⟩
    · exact .inl ⟨rfl, _, _, rfl⟩
    · simp at e
  · exact hg.rd zs (zs.length + 6) (by omega) (by omega) (fun i hi => by unfold handF; rw [if_pos hi])
set_option maxHeartbeats 2000000 in
set_option maxRecDepth 100000 in
theorem unseals_law (ks : List Int) (S : St) (v : Value) (xs : List Int) (w : World) (hT : Tab (fun i => ks.getD i 0) S w) (hTR : TabR ks S w) (hks : ks.length = 64) (hr : Rd .u8 w v xs) (hb : Bytes xs) (hm : xs.length ≤ 140737488351232) :
    Calls Tryd.prog 4 #[v] w (DoneT w) := by
  have hhd := hand_ok v xs w hr hm
  have HT := Lib.hid hT
  have HTR := Lib.hid hTR
  have HKS := Lib.hid hks
  have HB := Lib.hid hb
  have HR := Lib.hid hr
  obtain ⟨A, c, rfl⟩ := hr.slice
  obtain ⟨L, eL⟩ : ∃ L, L = xs.length := ⟨_, rfl⟩
  have HL := Lib.hid eL
  obtain ⟨q, eq⟩ : ∃ q, q = unF (fun i => ks.getD i 0) S xs := ⟨_, rfl⟩
  have EQ := Lib.hid eq
  obtain ⟨s, e0⟩ := q
  obtain ⟨H, eH⟩ : ∃ H, H = HandQ w xs := ⟨_, rfl⟩
  rw [← eH] at hhd
  rw [← eL] at hhd hm ⊢
  have HHD := Lib.hid hhd
  have EH := Lib.hid eH
  clear hT hTR hks hb eL eq hhd eH
  go_enter Tryd.func4, Tryd.ntmps4
  go_wp2_with fail
  refine HHD.out.mono ?_
  rw [EH.out]
  rintro e w1 ⟨rfl, hb1, hrow⟩
  rw [← HL.out]
  have hr1 : Rd .u8 w1 (.slice A L c) xs := by have := HR.out.below hb1; rw [← HL.out] at this; exact this
  have hav : Rd .u8 w1 (argV w.heap.size (.slice A L c) L) xs := by have h1 : Rd .u8 w1 (.slice A xs.length c) xs := by { rw [← HL.out]; exact hr1 }; have := argV_rd h1 hrow; rw [← HL.out] at this; exact this
  have hun := unseal_ok (fun i => ks.getD i 0) S _ xs w1 (HT.out.belowS hb1) hav HB.out
  rw [← EQ.out] at hun
  have HUN := Lib.hid hun
  have HB1 := Lib.hid hb1
  have HROW := Lib.hid hrow
  have HR1 := Lib.hid hr1
  have hgl := hrow.lt
  clear hun hb1 hrow hr1 hav hr HHD EH
  go_wp2_with (go_at_call 16; refine (arg_ok _ L c A _ hm).mono ?_; rintro e w' ⟨rfl, rfl⟩)
  refine HUN.out.mono ?_
  rintro e w2 ⟨rfl, hb2⟩
  simp only [Sup.arr]
  have hba := hb2.alloc hb2.size (.cells s.arr 27)
  have hA : Blk (w2.alloc (.cells s.arr 27)) w2.heap.size 27 s.arr := Blk.newAt _ _ _ _ rfl
  obtain ⟨w3, ew3⟩ : ∃ w3, w3 = w2.alloc (.cells s.arr 27) := ⟨_, rfl⟩
  rw [← ew3] at hba hA
  have hru := runseal_ok ks S _ xs w3 (HTR.out.below (HB1.out.trans (hba.mono HB1.out.size))) HKS.out (HR1.out.below hba) HB.out
  rw [← EQ.out] at hru
  simp only [Sup.arr] at ew3
  have EW3 := Lib.hid ew3
  have HRU := Lib.hid hru
  have HBA := Lib.hid hba
  have HA := Lib.hid hA
  clear ew3 hru hba hA hb2
  go_wp2_with fail
  rw [← EW3.out]
  refine HRU.out.mono ?_
  rintro e w4 ⟨rfl, hb4⟩
  simp only [Sup.arr]
  have hA4 : Blk w4 w2.heap.size 27 s.arr := HA.out.below hb4 HA.out.lt
  have hlt4 := hA4.lt
  obtain ⟨w5, ew5⟩ : ∃ w5, w5 = w4.alloc (.cells s.arr 27) := ⟨_, rfl⟩
  have hbl4 : Below w1.heap.size w1 w4 := HBA.out.trans (hb4.mono HBA.out.size)
  have hb5 : Below w1.heap.size w1 w5 := by rw [ew5]; exact hbl4.alloc hbl4.size _
  have hA5 : Blk w5 w2.heap.size 27 s.arr := by rw [ew5]; exact hA4.alloc _
  have hA6 : Blk w5 w4.heap.size 27 s.arr := by rw [ew5]; exact Blk.newAt _ _ _ _ rfl
  have hun : Calls Tryd.prog 18 #[.slice (some ⟨w.heap.size, 0, none⟩) (L + 6) (L + 6), .slice A L c] w5 (SameP w5 true) := by
    have := untouched_ok w.heap.size (.slice A L c) xs w5 (HR1.out.below hb5) (by rw [← HL.out]; exact hm) (HROW.out.below hb5 HROW.out.lt)
    rw [← HL.out] at this; exact this
  have b0 := hA4.cell 0
  have b1 := hA4.cell 1
  have b2 := hA4.cell 2
  have b3 := hA4.cell 3
  have b4 := hA4.cell 4
  have b5 := hA4.cell 5
  have b6 := hA4.cell 6
  have b7 := hA4.cell 7
  have b8 := hA4.cell 8
  have b9 := hA4.cell 9
  simp only [Sup.arr, List.getElem?_toArray, List.getElem?_cons_zero, List.getElem?_cons_succ] at b0 b1 b2 b3 b4 b5 b6 b7 b8 b9 ew5
  have hfin : ∀ m, DoneT w (.returned (.bool true)) (w5.drewN m) := fun m => ⟨rfl, below_drewN (HB1.out.trans (hb5.mono HB1.out.size)) m⟩
  have HUT := Lib.hid hun
  have HFin := Lib.hid hfin
  have EW5 := Lib.hid ew5
  clear hun hfin hA4 hA5 hA6 hb4 hbl4 hb5 ew5 HA HBA HRU
  have te : (e0 == e0) = true := by simp
  go_wp2_with fail
  rw [← EW5.out]
  refine HUT.out.mono ?_
  rintro e w6 ⟨m, rfl, rfl⟩
  go_wp2_with fail
  go_ret
  exact HFin.out m
end Go.Proofs.YtjcinelcocmpnaaDoor
