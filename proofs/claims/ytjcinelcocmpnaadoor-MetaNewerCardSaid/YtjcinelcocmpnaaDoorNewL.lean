/- MetaNewer: the walk of the statement. -/
import Derived.Test.YtjcinelcocmpnaaDoorLawA
import Derived.Test.YtjcinelcocmpnaaDoorSupL
namespace Go.Proofs.YtjcinelcocmpnaaDoor
open Go.RowKit
set_option linter.unusedVariables false
set_option linter.unusedSimpArgs false
theorem slot_un (K : Nat → Int) (S : St) (v : Value) (l : List Int) (w : World) (r : Sup × Int) (hT : Tab K S w) (hr : Rd .u8 w v l) (hb : Bytes l) (he : unF K S l = r) : ∀ w1, Below w.heap.size w w1 → Calls Tryd.prog 15 #[v] w1 (UnQ r w1) := by
  intro w1 h1
  have := unseal_ok K S v l w1 (hT.belowS h1) (hr.below h1) hb
  rw [he] at this; exact this
theorem slot_seal (K : Nat → Int) (S : St) (s : Sup) (g : Nat) (w : World) (hf : Fits s) (hk : Kinds s) (hT : Tab K S w) (hr : RowA .u8 5 w g s.sz.toNat (fun i => (sealL K S s).getD i 0)) : Rd .u8 w (.slice (some ⟨g, 0, none⟩) s.sz.toNat s.sz.toNat) (sealL K S s) := by
  have hlen := sealL_length K S s hf.2.2.2.2.1
  have := hr.rd (sealL K S s) s.sz.toNat (by omega) (by omega) (fun i _ => rfl)
  rw [hlen] at this; exact this
set_option maxHeartbeats 8000000 in
set_option maxRecDepth 100000 in
theorem newer_law (K : Nat → Int) (S : St) (a b : Sup) (v : Value) (xs : List Int) (w : World) (hT : Tab K S w) (ha : Kinds a) (hb : Kinds b) (hr : Rd .u8 w v xs) (hx : Bytes xs) :
    Calls Tryd.prog 9 #[.agg a.arr, .agg b.arr, v] w (DoneT w) := by
  obtain ⟨wa, ewa⟩ : ∃ wa, wa = (w.alloc (.cells a.arr 27)).alloc (.cells b.arr 27) := ⟨_, rfl⟩
  have h1 : Below w.heap.size w (w.alloc (.cells a.arr 27)) := (Below.refl _ _).alloc (Nat.le_refl _) _
  have hba : Below w.heap.size w wa := by rw [ewa]; exact h1.alloc h1.size _
  have hAa : Blk wa w.heap.size 27 a.arr := by rw [ewa]; exact (Blk.newAt _ _ _ _ rfl).alloc _
  have hBa : Blk wa (w.heap.size + 1) 27 b.arr := by rw [ewa]; exact Blk.newAt _ _ _ _ (by simp)
  have HT := Lib.hid hT
  have HKa := Lib.hid ha
  have HKb := Lib.hid hb
  have HR := Lib.hid hr
  have HX := Lib.hid hx
  have HBa := Lib.hid hba
  have HAa := Lib.hid hAa
  have HBB := Lib.hid hBa
  have hla := lawful_ok a wa
  simp only [Sup.arr] at hla ewa
  have HLA := Lib.hid hla
  have EWA := Lib.hid ewa
  clear hT ha hb hr hx h1 hba hAa hBa hla ewa
  simp only [Sup.arr]
  go_enter Tryd.func9, Tryd.ntmps9
  go_wp2_with fail
  rw [← EWA.out]
  refine HLA.out.mono ?_
  rintro e w1 ⟨⟨r1, rfl, hr1⟩, hb1⟩
  have hA1 : Blk w1 w.heap.size 27 a.arr := HAa.out.below hb1 HAa.out.lt
  have hB1 : Blk w1 (w.heap.size + 1) 27 b.arr := HBB.out.below hb1 HBB.out.lt
  have hbw1 : Below w.heap.size w w1 := HBa.out.trans (hb1.mono HBa.out.size)
  have hlb := lawful_ok b w1
  simp only [Sup.arr] at hlb
  have HLB := Lib.hid hlb
  have HA1 := Lib.hid hA1
  have HB1 := Lib.hid hB1
  have HW1 := Lib.hid hbw1
  have HR1 := Lib.hid hr1
  have b0 := hB1.cell 0
  have b1 := hB1.cell 1
  have b2 := hB1.cell 2
  have b3 := hB1.cell 3
  have b4 := hB1.cell 4
  have b5 := hB1.cell 5
  have b6 := hB1.cell 6
  have b7 := hB1.cell 7
  have b8 := hB1.cell 8
  have b9 := hB1.cell 9
  simp only [Sup.arr, List.getElem?_toArray, List.getElem?_cons_zero, List.getElem?_cons_succ] at b0 b1 b2 b3 b4 b5 b6 b7 b8 b9
  clear hA1 hB1 hbw1 hb1 hlb hr1 HLA
  go_wp2_with fail
  refine HLB.out.mono ?_
  rintro e w2 ⟨⟨r2, rfl, hr2⟩, hb2⟩
  clear b0 b1 b2 b3 b4 b5 b6 b7 b8 b9
  have hA2 : Blk w2 w.heap.size 27 a.arr := HA1.out.below hb2 HA1.out.lt
  have hB2 : Blk w2 (w.heap.size + 1) 27 b.arr := HB1.out.below hb2 HB1.out.lt
  have hbw2 : Below w.heap.size w w2 := HW1.out.trans (hb2.mono HW1.out.size)
  have HA2 := Lib.hid hA2
  have HB2 := Lib.hid hB2
  have HW2 := Lib.hid hbw2
  have HR2 := Lib.hid hr2
  have a0 := hA2.cell 0
  have a1 := hA2.cell 1
  have a2 := hA2.cell 2
  have a3 := hA2.cell 3
  have a4 := hA2.cell 4
  have a5 := hA2.cell 5
  have a6 := hA2.cell 6
  have a7 := hA2.cell 7
  have a8 := hA2.cell 8
  have a9 := hA2.cell 9
  simp only [Sup.arr, List.getElem?_toArray, List.getElem?_cons_zero, List.getElem?_cons_succ] at a0 a1 a2 a3 a4 a5 a6 a7 a8 a9
  have b0 := hB2.cell 0
  have b1 := hB2.cell 1
  have b2 := hB2.cell 2
  have b3 := hB2.cell 3
  have b4 := hB2.cell 4
  have b5 := hB2.cell 5
  have b6 := hB2.cell 6
  have b7 := hB2.cell 7
  have b8 := hB2.cell 8
  have b9 := hB2.cell 9
  simp only [Sup.arr, List.getElem?_toArray, List.getElem?_cons_zero, List.getElem?_cons_succ] at b0 b1 b2 b3 b4 b5 b6 b7 b8 b9
  have s1 : w.heap.size < w2.heap.size := hA2.lt
  have s2 : w.heap.size + 1 < w2.heap.size := hB2.lt
  clear hA2 hB2 hbw2 hb2 hr2 HLB
  rcases r1 with _ | _
  · go_wp2_with fail
    go_ret
    exact ⟨rfl, HW2.out⟩
  rcases r2 with _ | _
  · go_wp2_with fail
    go_ret
    exact ⟨rfl, HW2.out⟩
  have hfa := HR1.out.1 rfl
  have hfb := HR2.out.1 rfl
  have HFa := Lib.hid hfa
  have HFb := Lib.hid hfb
  clear hfa hfb HR1 HR2
  by_cases hs : b.sq ≤ a.sq
  · have ts : decide (b.sq ≤ a.sq) = true := by simpa using hs
    go_wp2_with fail
    go_ret
    exact ⟨rfl, HW2.out⟩
  have ts : decide (b.sq ≤ a.sq) = false := by simpa using hs
  have hsa := seal_ok K S a w2 (HT.out.belowS HW2.out) HKa.out.2.2.2.2.2.1 HKa.out.2.2.2.2.2.2 HKa.out.2.1.1 HKa.out.2.2.1.1 HKa.out.2.2.2.1.1 HKa.out.2.2.2.2.1.1
  simp only [Sup.arr] at hsa
  have HSA := Lib.hid hsa
  have HS := Lib.hid hs
  clear hsa hs
  go_wp2_with fail
  refine HSA.out.mono ?_
  rintro e w3 ⟨hb3, hq⟩
  rcases hq.symm with ⟨hno, _⟩ | ⟨_, P, hP, rfl, hrow⟩
  · exact absurd HFa.out hno
  clear a0 a1 a2 a3 a4 a5 a6 a7 a8 a9 b0 b1 b2 b3 b4 b5 b6 b7 b8 b9
  have hA3 : Blk w3 w.heap.size 27 a.arr := HA2.out.below hb3 HA2.out.lt
  have hB3 : Blk w3 (w.heap.size + 1) 27 b.arr := HB2.out.below hb3 HB2.out.lt
  have hbw3 : Below w.heap.size w w3 := HW2.out.trans (hb3.mono HW2.out.size)
  have HA3 := Lib.hid hA3
  have HB3 := Lib.hid hB3
  have HW3 := Lib.hid hbw3
  have HRow := Lib.hid hrow
  have b0 := hB3.cell 0
  have b1 := hB3.cell 1
  have b2 := hB3.cell 2
  have b3 := hB3.cell 3
  have b4 := hB3.cell 4
  have b5 := hB3.cell 5
  have b6 := hB3.cell 6
  have b7 := hB3.cell 7
  have b8 := hB3.cell 8
  have b9 := hB3.cell 9
  simp only [Sup.arr, List.getElem?_toArray, List.getElem?_cons_zero, List.getElem?_cons_succ] at b0 b1 b2 b3 b4 b5 b6 b7 b8 b9
  have s3 : w.heap.size + 1 < w3.heap.size := hB3.lt
  have hsb := seal_ok K S b w3 (HT.out.belowS HW3.out) HKb.out.2.2.2.2.2.1 HKb.out.2.2.2.2.2.2 HKb.out.2.1.1 HKb.out.2.2.1.1 HKb.out.2.2.2.1.1 HKb.out.2.2.2.2.1.1
  simp only [Sup.arr] at hsb
  have HSB := Lib.hid hsb
  clear hsb hA3 hB3 hbw3 hb3 hrow hq HSA s1 s2
  go_wp2_with fail
  refine HSB.out.mono ?_
  rintro e w4 ⟨hb4, hq⟩
  rcases hq.symm with ⟨hno, _⟩ | ⟨_, Q, hQ, rfl, hrow⟩
  · exact absurd HFb.out hno
  clear b0 b1 b2 b3 b4 b5 b6 b7 b8 b9
  have hA4 : Blk w4 w.heap.size 27 a.arr := HA3.out.below hb4 HA3.out.lt
  have hB4 : Blk w4 (w.heap.size + 1) 27 b.arr := HB3.out.below hb4 HB3.out.lt
  have hbw4 : Below w.heap.size w w4 := HW3.out.trans (hb4.mono HW3.out.size)
  have HA4 := Lib.hid hA4
  have HB4 := Lib.hid hB4
  have HW4 := Lib.hid hbw4
  have hT4 : Tab K S w4 := HT.out.belowS hbw4
  have hra := slot_seal K S a P w4 HFa.out HKa.out hT4 (HRow.out.below hb4 HRow.out.lt)
  have hrb := slot_seal K S b Q w4 HFb.out HKb.out hT4 hrow
  have hua := slot_un K S _ _ w4 (a, 0) hT4 hra (sealL_bytes K S a) (unF_seal K S a HFa.out HKa.out)
  have hub := slot_un K S _ _ w4 (b, 0) hT4 hrb (sealL_bytes K S b) (unF_seal K S b HFb.out HKb.out)
  have hrv : Rd .u8 w4 v xs := HR.out.below hbw4
  obtain ⟨r, er⟩ : ∃ r, r = unF K S xs := ⟨_, rfl⟩
  have huv := slot_un K S v xs w4 r hT4 hrv HX.out er.symm
  have HUA := Lib.hid hua
  have HUB := Lib.hid hub
  have HUV := Lib.hid huv
  clear HR HX HRow HKa HKb HT hT4 hra hrb hrv er
  have hc1 := choose_ok (a, 0) (b, 0) _ _ w4 hua hub
  have e1 : chF (a, 0) (b, 0) = (b, 1, 0) := by unfold chF; rw [if_neg (fun h => h.1 rfl), if_neg (fun h => h rfl), if_neg (fun h => h.elim (fun h => h rfl) (fun h => by have h1 := HS.out; have h2 : b.sq ≤ a.sq := h; omega))]
  rw [e1] at hc1
  have HC1 := Lib.hid hc1
  have s4 : w.heap.size + 1 < w4.heap.size := hB4.lt
  clear hc1 e1 hua hub huv hA4 hB4 hbw4 hb4 hrow hq HSB s3 HFa HFb
  go_wp2_with fail
  refine HC1.out.mono ?_
  rintro e w5 ⟨rfl, hb5⟩
  obtain ⟨wS, ewS⟩ : ∃ wS, wS = w5.alloc (.cells b.arr 27) := ⟨_, rfl⟩
  have hbS : Below w4.heap.size w4 wS := by rw [ewS]; exact hb5.alloc hb5.size _
  have hCS : Blk wS w5.heap.size 27 b.arr := by rw [ewS]; exact Blk.newAt _ _ _ _ rfl
  have hAS : Blk wS w.heap.size 27 a.arr := HA4.out.below hbS HA4.out.lt
  have hBS : Blk wS (w.heap.size + 1) 27 b.arr := HB4.out.below hbS HB4.out.lt
  have hc2 := choose_ok (b, 0) (a, 0) _ _ wS (fun w1 h => HUB.out w1 (hbS.trans (h.mono hbS.size))) (fun w1 h => HUA.out w1 (hbS.trans (h.mono hbS.size)))
  have e1 : chF (b, 0) (a, 0) = (b, 0, 0) := by unfold chF; rw [if_neg (fun h => h.1 rfl), if_neg (fun h => h rfl), if_pos (.inr (by have := HS.out; show a.sq ≤ b.sq; omega))]
  rw [e1] at hc2
  have HC2 := Lib.hid hc2
  have HBS := Lib.hid hBS
  have HAS := Lib.hid hAS
  have HCS := Lib.hid hCS
  have HWS := Lib.hid hbS
  simp only [Sup.arr] at ewS
  have EWS := Lib.hid ewS
  have s5 : w.heap.size + 1 < w5.heap.size := by have := hb5.size; omega
  have s5b : w4.heap.size ≤ w5.heap.size := hb5.size
  clear hc2 e1 hbS hCS hAS hBS ewS hb5 HC1
  simp only [Sup.arr]
  go_wp2_with fail
  rw [← EWS.out]
  refine HC2.out.mono ?_
  rintro e w6 ⟨rfl, hb6⟩
  have hA6 : Blk w6 w.heap.size 27 a.arr := HAS.out.below hb6 HAS.out.lt
  have hB6 : Blk w6 (w.heap.size + 1) 27 b.arr := HBS.out.below hb6 HBS.out.lt
  have hC6 : Blk w6 w5.heap.size 27 b.arr := HCS.out.below hb6 HCS.out.lt
  have hbw6 : Below w4.heap.size w4 w6 := HWS.out.trans (hb6.mono HWS.out.size)
  obtain ⟨wT, ewT⟩ : ∃ wT, wT = w6.alloc (.cells b.arr 27) := ⟨_, rfl⟩
  have hbT : Below w4.heap.size w4 wT := by rw [ewT]; exact hbw6.alloc hbw6.size _
  have hDT : Blk wT w6.heap.size 27 b.arr := by rw [ewT]; exact Blk.newAt _ _ _ _ rfl
  have hAT : Blk wT w.heap.size 27 a.arr := by rw [ewT]; exact hA6.alloc _
  have hCT : Blk wT w5.heap.size 27 b.arr := by rw [ewT]; exact hC6.alloc _
  have huj := HUV.out wT hbT
  have HUJ := Lib.hid huj
  have s6 : w5.heap.size < w6.heap.size := hC6.lt
  have s7 : w.heap.size + 1 < w6.heap.size := hB6.lt
  have b0 := hB6.cell 0
  have b1 := hB6.cell 1
  have b2 := hB6.cell 2
  have b3 := hB6.cell 3
  have b4 := hB6.cell 4
  have b5 := hB6.cell 5
  have b6 := hB6.cell 6
  have b7 := hB6.cell 7
  have b8 := hB6.cell 8
  have b9 := hB6.cell 9
  simp only [Sup.arr, List.getElem?_toArray, List.getElem?_cons_zero, List.getElem?_cons_succ] at b0 b1 b2 b3 b4 b5 b6 b7 b8 b9
  have c0 := hC6.cell 0
  have c1 := hC6.cell 1
  have c2 := hC6.cell 2
  have c3 := hC6.cell 3
  have c4 := hC6.cell 4
  have c5 := hC6.cell 5
  have c6 := hC6.cell 6
  have c7 := hC6.cell 7
  have c8 := hC6.cell 8
  have c9 := hC6.cell 9
  simp only [Sup.arr, List.getElem?_toArray, List.getElem?_cons_zero, List.getElem?_cons_succ] at c0 c1 c2 c3 c4 c5 c6 c7 c8 c9
  have HAT := Lib.hid hAT
  have HCT := Lib.hid hCT
  have HDT := Lib.hid hDT
  have HWT := Lib.hid hbT
  simp only [Sup.arr] at ewT
  have EWT := Lib.hid ewT
  clear hA6 hB6 hC6 hbw6 hb6 hDT hAT hCT hbT huj ewT HC2
  simp only [Sup.arr]
  go_wp2_with fail
  rw [← EWT.out]
  refine HUJ.out.mono ?_
  rintro e w7 ⟨rfl, hb7⟩
  clear b0 b1 b2 b3 b4 b5 b6 b7 b8 b9 c0 c1 c2 c3 c4 c5 c6 c7 c8 c9
  have hA7 : Blk w7 w.heap.size 27 a.arr := HAT.out.below hb7 HAT.out.lt
  have hC7 : Blk w7 w5.heap.size 27 b.arr := HCT.out.below hb7 HCT.out.lt
  have hD7 : Blk w7 w6.heap.size 27 b.arr := HDT.out.below hb7 HDT.out.lt
  have hbw7 : Below w4.heap.size w4 w7 := HWT.out.trans (hb7.mono HWT.out.size)
  obtain ⟨wU, ewU⟩ : ∃ wU, wU = w7.alloc (.cells r.1.arr 27) := ⟨_, rfl⟩
  have hbU : Below w4.heap.size w4 wU := by rw [ewU]; exact hbw7.alloc hbw7.size _
  have hAU : Blk wU w.heap.size 27 a.arr := by rw [ewU]; exact hA7.alloc _
  have hCU : Blk wU w5.heap.size 27 b.arr := by rw [ewU]; exact hC7.alloc _
  have hDU : Blk wU w6.heap.size 27 b.arr := by rw [ewU]; exact hD7.alloc _
  have HAU := Lib.hid hAU
  have HCU := Lib.hid hCU
  have HDU := Lib.hid hDU
  have HWU := Lib.hid hbU
  simp only [Sup.arr] at ewU
  have EWU := Lib.hid ewU
  clear hA7 hC7 hD7 hbw7 hb7 hAU hCU hDU hbU ewU HUJ s7
  simp only [Sup.arr]
  by_cases hz : r.2 = 0
  · have tz : (r.2 == 0) = true := by rw [hz]; rfl
    clear hz
    go_wp2_with fail
    rw [← EWU.out]
    go_ret
    exact ⟨rfl, HW4.out.trans (HWU.out.mono HW4.out.size)⟩
  have tz : (r.2 == 0) = false := by rw [beq_eq_false_iff_ne]; exact hz
  have hc3 := choose_ok (a, 0) r _ _ wU (fun w1 h => HUA.out w1 (HWU.out.trans (h.mono HWU.out.size))) (fun w1 h => HUV.out w1 (HWU.out.trans (h.mono HWU.out.size)))
  have e1 : chF (a, 0) r = (a, 0, 0) := by unfold chF; rw [if_neg (fun h => h.1 rfl), if_neg (fun h => h rfl), if_pos (.inl hz)]
  rw [e1] at hc3
  have HC3 := Lib.hid hc3
  have HZ := Lib.hid hz
  clear hc3 e1 hz
  go_wp2_with fail
  rw [← EWU.out]
  refine HC3.out.mono ?_
  rintro e w8 ⟨rfl, hb8⟩
  clear tz
  have hA8 : Blk w8 w.heap.size 27 a.arr := HAU.out.below hb8 HAU.out.lt
  have hC8 : Blk w8 w5.heap.size 27 b.arr := HCU.out.below hb8 HCU.out.lt
  have hD8 : Blk w8 w6.heap.size 27 b.arr := HDU.out.below hb8 HDU.out.lt
  have hbw8 : Below w4.heap.size w4 w8 := HWU.out.trans (hb8.mono HWU.out.size)
  obtain ⟨w9, ew9⟩ : ∃ w9, w9 = ((((((((((w8.setCell ⟨w5.heap.size, 0, none⟩ (.int .u64 a.sq)).setCell ⟨w5.heap.size, 1, none⟩ (.int .i64 a.bl)).setCell ⟨w5.heap.size, 2, none⟩ (.int .i64 a.sz)).setCell ⟨w5.heap.size, 3, none⟩ (.int .i64 a.sl)).setCell ⟨w5.heap.size, 4, none⟩ (.int .u64 a.cu)).setCell ⟨w5.heap.size, 5, none⟩ (.int .u64 a.bm)).setCell ⟨w5.heap.size, 6, none⟩ (.int .u64 a.o1)).setCell ⟨w5.heap.size, 7, none⟩ (.int .u64 a.o2)).setCell ⟨w5.heap.size, 8, none⟩ (.int .u32 a.fl)).setCell ⟨w5.heap.size, 9, none⟩ (.int .i64 a.mr)) := ⟨_, rfl⟩
  have hA9 : Blk w9 w.heap.size 27 a.arr := by rw [ew9]; exact hA8.far10 (by omega) (.int .u64 a.sq) (.int .i64 a.bl) (.int .i64 a.sz) (.int .i64 a.sl) (.int .u64 a.cu) (.int .u64 a.bm) (.int .u64 a.o1) (.int .u64 a.o2) (.int .u32 a.fl) (.int .i64 a.mr)
  have hD9 : Blk w9 w6.heap.size 27 b.arr := by rw [ew9]; exact hD8.far10 (by omega) (.int .u64 a.sq) (.int .i64 a.bl) (.int .i64 a.sz) (.int .i64 a.sl) (.int .u64 a.cu) (.int .u64 a.bm) (.int .u64 a.o1) (.int .u64 a.o2) (.int .u32 a.fl) (.int .i64 a.mr)
  have hC9 : Blk w9 w5.heap.size 27 a.arr := by rw [ew9]; exact hC8.set10 (.int .u64 a.sq) (.int .i64 a.bl) (.int .i64 a.sz) (.int .i64 a.sl) (.int .u64 a.cu) (.int .u64 a.bm) (.int .u64 a.o1) (.int .u64 a.o2) (.int .u32 a.fl) (.int .i64 a.mr)
  have hb9 : Below w4.heap.size w8 w9 := by rw [ew9]; exact (Only.set10 (bs := [w5.heap.size]) (Only.refl [w5.heap.size] w8) (List.mem_singleton.2 rfl) (.int .u64 a.sq) (.int .i64 a.bl) (.int .i64 a.sz) (.int .i64 a.sl) (.int .u64 a.cu) (.int .u64 a.bm) (.int .u64 a.o1) (.int .u64 a.o2) (.int .u32 a.fl) (.int .i64 a.mr)).below hbw8.size (fun k hk => by rw [List.mem_singleton.1 hk]; omega)
  have hbw9 : Below w4.heap.size w4 w9 := hbw8.trans hb9
  have hc4 := choose_ok r (a, 0) _ _ w9 (fun w1 h => HUV.out w1 (hbw9.trans (h.mono hbw9.size))) (fun w1 h => HUA.out w1 (hbw9.trans (h.mono hbw9.size)))
  have e1 : chF r (a, 0) = (a, 1, 0) := by unfold chF; rw [if_neg (fun h => h.2 rfl), if_pos HZ.out]
  rw [e1] at hc4
  have HC4 := Lib.hid hc4
  have c0 := hC8.cell 0
  have c1 := hC8.cell 1
  have c2 := hC8.cell 2
  have c3 := hC8.cell 3
  have c4 := hC8.cell 4
  have c5 := hC8.cell 5
  have c6 := hC8.cell 6
  have c7 := hC8.cell 7
  have c8 := hC8.cell 8
  have c9 := hC8.cell 9
  simp only [Sup.arr, List.getElem?_toArray, List.getElem?_cons_zero, List.getElem?_cons_succ] at c0 c1 c2 c3 c4 c5 c6 c7 c8 c9
  have f0 := hC8.free 0
  have f1 := hC8.free 1
  have f2 := hC8.free 2
  have f3 := hC8.free 3
  have f4 := hC8.free 4
  have f5 := hC8.free 5
  have f6 := hC8.free 6
  have f7 := hC8.free 7
  have f8 := hC8.free 8
  have f9 := hC8.free 9
  have HA9 := Lib.hid hA9
  have HC9 := Lib.hid hC9
  have HD9 := Lib.hid hD9
  have HW9 := Lib.hid hbw9
  have EW9 := Lib.hid ew9
  clear hc4 e1 hA8 hC8 hD8 hA9 hC9 hD9 hbw8 hb8 hb9 hbw9 ew9 HC3
  simp only [Sup.arr]
  go_wp2_with fail
  rw [← EW9.out]
  refine HC4.out.mono ?_
  rintro e w10 ⟨rfl, hb10⟩
  clear c0 c1 c2 c3 c4 c5 c6 c7 c8 c9 f0 f1 f2 f3 f4 f5 f6 f7 f8 f9
  have hA10 : Blk w10 w.heap.size 27 a.arr := HA9.out.below hb10 HA9.out.lt
  have hC10 : Blk w10 w5.heap.size 27 a.arr := HC9.out.below hb10 HC9.out.lt
  have hD10 : Blk w10 w6.heap.size 27 b.arr := HD9.out.below hb10 HD9.out.lt
  have hbw10 : Below w4.heap.size w4 w10 := HW9.out.trans (hb10.mono HW9.out.size)
  obtain ⟨w11, ew11⟩ : ∃ w11, w11 = ((((((((((w10.setCell ⟨w6.heap.size, 0, none⟩ (.int .u64 a.sq)).setCell ⟨w6.heap.size, 1, none⟩ (.int .i64 a.bl)).setCell ⟨w6.heap.size, 2, none⟩ (.int .i64 a.sz)).setCell ⟨w6.heap.size, 3, none⟩ (.int .i64 a.sl)).setCell ⟨w6.heap.size, 4, none⟩ (.int .u64 a.cu)).setCell ⟨w6.heap.size, 5, none⟩ (.int .u64 a.bm)).setCell ⟨w6.heap.size, 6, none⟩ (.int .u64 a.o1)).setCell ⟨w6.heap.size, 7, none⟩ (.int .u64 a.o2)).setCell ⟨w6.heap.size, 8, none⟩ (.int .u32 a.fl)).setCell ⟨w6.heap.size, 9, none⟩ (.int .i64 a.mr)) := ⟨_, rfl⟩
  have hA11 : Blk w11 w.heap.size 27 a.arr := by rw [ew11]; exact hA10.far10 (by omega) (.int .u64 a.sq) (.int .i64 a.bl) (.int .i64 a.sz) (.int .i64 a.sl) (.int .u64 a.cu) (.int .u64 a.bm) (.int .u64 a.o1) (.int .u64 a.o2) (.int .u32 a.fl) (.int .i64 a.mr)
  have hC11 : Blk w11 w5.heap.size 27 a.arr := by rw [ew11]; exact hC10.far10 (by omega) (.int .u64 a.sq) (.int .i64 a.bl) (.int .i64 a.sz) (.int .i64 a.sl) (.int .u64 a.cu) (.int .u64 a.bm) (.int .u64 a.o1) (.int .u64 a.o2) (.int .u32 a.fl) (.int .i64 a.mr)
  have hD11 : Blk w11 w6.heap.size 27 a.arr := by rw [ew11]; exact hD10.set10 (.int .u64 a.sq) (.int .i64 a.bl) (.int .i64 a.sz) (.int .i64 a.sl) (.int .u64 a.cu) (.int .u64 a.bm) (.int .u64 a.o1) (.int .u64 a.o2) (.int .u32 a.fl) (.int .i64 a.mr)
  have hb11 : Below w.heap.size w10 w11 := by rw [ew11]; exact (Only.set10 (bs := [w6.heap.size]) (Only.refl [w6.heap.size] w10) (List.mem_singleton.2 rfl) (.int .u64 a.sq) (.int .i64 a.bl) (.int .i64 a.sz) (.int .i64 a.sl) (.int .u64 a.cu) (.int .u64 a.bm) (.int .u64 a.o1) (.int .u64 a.o2) (.int .u32 a.fl) (.int .i64 a.mr)).below (by have := hbw10.size; have := HW4.out.size; omega) (fun k hk => by rw [List.mem_singleton.1 hk]; omega)
  have hfin : Below w.heap.size w w11 := (HW4.out.trans (hbw10.mono HW4.out.size)).trans hb11
  have d0 := hD10.cell 0
  have d1 := hD10.cell 1
  have d2 := hD10.cell 2
  have d3 := hD10.cell 3
  have d4 := hD10.cell 4
  have d5 := hD10.cell 5
  have d6 := hD10.cell 6
  have d7 := hD10.cell 7
  have d8 := hD10.cell 8
  have d9 := hD10.cell 9
  simp only [Sup.arr, List.getElem?_toArray, List.getElem?_cons_zero, List.getElem?_cons_succ] at d0 d1 d2 d3 d4 d5 d6 d7 d8 d9
  have f0 := hD10.free 0
  have f1 := hD10.free 1
  have f2 := hD10.free 2
  have f3 := hD10.free 3
  have f4 := hD10.free 4
  have f5 := hD10.free 5
  have f6 := hD10.free 6
  have f7 := hD10.free 7
  have f8 := hD10.free 8
  have f9 := hD10.free 9
  have a0 := hA10.cell 0
  have a1 := hA10.cell 1
  have a2 := hA10.cell 2
  have a3 := hA10.cell 3
  have a4 := hA10.cell 4
  have a5 := hA10.cell 5
  have a6 := hA10.cell 6
  have a7 := hA10.cell 7
  have a8 := hA10.cell 8
  have a9 := hA10.cell 9
  simp only [Sup.arr, List.getElem?_toArray, List.getElem?_cons_zero, List.getElem?_cons_succ] at a0 a1 a2 a3 a4 a5 a6 a7 a8 a9
  have c0 := hC10.cell 0
  have c1 := hC10.cell 1
  have c2 := hC10.cell 2
  have c3 := hC10.cell 3
  have c4 := hC10.cell 4
  have c5 := hC10.cell 5
  have c6 := hC10.cell 6
  have c7 := hC10.cell 7
  have c8 := hC10.cell 8
  have c9 := hC10.cell 9
  simp only [Sup.arr, List.getElem?_toArray, List.getElem?_cons_zero, List.getElem?_cons_succ] at c0 c1 c2 c3 c4 c5 c6 c7 c8 c9
  have HFin := Lib.hid hfin
  have EW11 := Lib.hid ew11
  have s9 : w.heap.size < w10.heap.size := hA10.lt
  clear hA10 hC10 hD10 hA11 hC11 hD11 hbw10 hb10 hb11 hfin ew11 HC4
  simp only [Sup.arr]
  go_wp2_with fail
  rw [← EW11.out]
  go_ret
  exact ⟨rfl, HFin.out⟩
end Go.Proofs.YtjcinelcocmpnaaDoor
