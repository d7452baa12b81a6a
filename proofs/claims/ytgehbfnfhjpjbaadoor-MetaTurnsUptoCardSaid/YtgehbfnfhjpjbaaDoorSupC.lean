/- All fields of a superblock taken: reader.super. -/
import Derived.Test.YtgehbfnfhjpjbaaDoorSupP
import Derived.Deep.RegionWith
namespace Go.Proofs.YtgehbfnfhjpjbaaDoor
open Go.RowKit
set_option linter.unusedVariables false
set_option linter.unusedSimpArgs false
/-- What holds while super runs: the reader at place p, the local superblock's cells cs. -/
def SpA (g B off c p : Nat) (xs : List Int) (cs : Array Value) (w wr : World) : Prop :=
  Only [g] w wr ∧ RdC 93 wr g B off c p xs ∧ Blk wr (w.heap.size + 1) 27 cs ∧ (∃ cur, Blk wr w.heap.size 27 cur ∧ cur.size = 10)
theorem SpA.taken {g B off c p n : Nat} {xs : List Int} {cs : Array Value} {w wr w1 : World} (h : SpA g B off c p xs cs w wr) (hg : g < w.heap.size) (hn : NmA 93 g B off c p n xs wr w1) : SpA g B off c (p + n) xs cs w w1 := by
  obtain ⟨h1, h2, h3, cur, h4, h5⟩ := h
  obtain ⟨k1, k2, k3⟩ := hn
  exact ⟨h1.trans k1, k3, k1.blk h3 (by simp; omega), cur, k1.blk h4 (by simp; omega), h5⟩
theorem SpA.put {g B off c p : Nat} {xs : List Int} {cs : Array Value} {w wr : World} (h : SpA g B off c p xs cs w wr) (hg : g < w.heap.size) (hB : B < w.heap.size) (i : Nat) (v : Value) : SpA g B off c p xs (cs.setIfInBounds i v) w (wr.setCell ⟨w.heap.size + 1, i, none⟩ v) := by
  obtain ⟨h1, ⟨k1, k2, k3, k4, k5⟩, h3, cur, h4, h5⟩ := h
  refine ⟨⟨h1.os, h1.tape, h1.output, by rw [size_setCell]; exact h1.size, fun k hk hb => (Below.heap_setCell _ _ _ _ (by simp; omega)).trans (h1.block k hk hb)⟩, ⟨k1.far (by simp; omega) _, k2, k3, by rw [size_setCell]; exact k4, fun i hi => ?_⟩, h3.set i v, cur, h4.far (by simp) _, h5⟩
  rw [World.cell?_setCell_other _ _ _ _ (by intro e; injection e with e; omega)]
  exact k5 i hi
theorem SpA.drewN {g B off c p : Nat} {xs : List Int} {cs : Array Value} {w wr : World} (h : SpA g B off c p xs cs w wr) (n : Nat) : SpA g B off c p xs cs w (wr.drewN n) := ⟨h.1.drewN n, h.2.1, h.2.2.1, h.2.2.2⟩
/-- The place of a reader. -/
def atOf (g : Nat) (w : World) : Nat := match w.cell? ⟨g, 1, none⟩ with | some (.int _ q) => q.toNat | _ => 0
theorem RdC.atOf {tg : TypeId} {w : World} {g B off c p : Nat} {xs : List Int} (h : RdC tg w g B off c p xs) : Go.Proofs.YtgehbfnfhjpjbaaDoor.atOf g w = p := by
  unfold Go.Proofs.YtgehbfnfhjpjbaaDoor.atOf
  rw [h.1.cell]
  simp
/-- What super answers. -/
def SpQ (g : Nat) (xs : List Int) (w : World) (e : Ending) (w' : World) : Prop := (Good xs ∧ e = .returned (.agg (supOf xs).arr) ∧ Only [g] w w') ∨ (¬ Good xs ∧ e = .panicked badF ∧ Only [g] w w')
set_option maxHeartbeats 4000000 in
set_option maxRecDepth 100000 in
theorem super_ok (g B off c : Nat) (xs : List Int) (w : World) (h : RdC 93 w g B off c 8 xs) (hb : Bytes xs) (hz : okSize xs.length) :
    Calls Tryd.prog 30 #[.pointer (some ⟨g, 0, none⟩)] w (SpQ g xs w) := by
  have hgl : g < w.heap.size := h.1.lt
  have hBl : B < w.heap.size := h.2.2.2.1
  obtain ⟨L, eL⟩ : ∃ L, L = xs.length := ⟨_, rfl⟩
  have hL : 128 ≤ L ∧ L ≤ 1024 := by rw [eL]; unfold okSize at hz; omega
  have EL := Lib.hid eL
  have HB := Lib.hid hb
  have HZ := Lib.hid hz
  have H := Lib.hid h
  obtain ⟨hL1, hL2⟩ := hL
  obtain ⟨sq, esq⟩ : ∃ v, v = fld xs 8 8 := ⟨_, rfl⟩
  have bsq1 := (fld_bound xs 8 8 hb (by omega) (by omega)).1
  rw [← esq] at bsq1
  have Esq := Lib.hid esq
  clear esq
  obtain ⟨bl, ebl⟩ : ∃ v, v = fld xs 16 4 := ⟨_, rfl⟩
  have bbl1 := (fld_bound xs 16 4 hb (by omega) (by omega)).1
  rw [← ebl] at bbl1
  have Ebl := Lib.hid ebl
  clear ebl
  obtain ⟨sz, esz⟩ : ∃ v, v = fld xs 20 4 := ⟨_, rfl⟩
  have bsz1 := (fld_bound xs 20 4 hb (by omega) (by omega)).1
  rw [← esz] at bsz1
  have Esz := Lib.hid esz
  clear esz
  obtain ⟨sl, esl⟩ : ∃ v, v = fld xs 24 4 := ⟨_, rfl⟩
  have bsl1 := (fld_bound xs 24 4 hb (by omega) (by omega)).1
  rw [← esl] at bsl1
  have Esl := Lib.hid esl
  clear esl
  obtain ⟨mr, emr⟩ : ∃ v, v = fld xs 28 4 := ⟨_, rfl⟩
  have bmr1 := (fld_bound xs 28 4 hb (by omega) (by omega)).1
  rw [← emr] at bmr1
  have Emr := Lib.hid emr
  clear emr
  obtain ⟨cu, ecu⟩ : ∃ v, v = fld xs 32 8 := ⟨_, rfl⟩
  have bcu1 := (fld_bound xs 32 8 hb (by omega) (by omega)).1
  rw [← ecu] at bcu1
  have Ecu := Lib.hid ecu
  clear ecu
  obtain ⟨bm, ebm⟩ : ∃ v, v = fld xs 40 8 := ⟨_, rfl⟩
  have bbm1 := (fld_bound xs 40 8 hb (by omega) (by omega)).1
  rw [← ebm] at bbm1
  have Ebm := Lib.hid ebm
  clear ebm
  obtain ⟨o1, eo1⟩ : ∃ v, v = fld xs 48 8 := ⟨_, rfl⟩
  have bo11 := (fld_bound xs 48 8 hb (by omega) (by omega)).1
  rw [← eo1] at bo11
  have Eo1 := Lib.hid eo1
  clear eo1
  obtain ⟨o2, eo2⟩ : ∃ v, v = fld xs 56 8 := ⟨_, rfl⟩
  have bo21 := (fld_bound xs 56 8 hb (by omega) (by omega)).1
  rw [← eo2] at bo21
  have Eo2 := Lib.hid eo2
  clear eo2
  obtain ⟨fl, efl⟩ : ∃ v, v = fld xs 64 4 := ⟨_, rfl⟩
  have bfl1 := (fld_bound xs 64 4 hb (by omega) (by omega)).1
  rw [← efl] at bfl1
  have Efl := Lib.hid efl
  clear efl
  have bfl1' : 0 ≤ fld xs 64 4 := by rw [← Efl.out]; exact bfl1
  clear eL hb hz h
  go_enter Tryd.func30, Tryd.ntmps30
  go_wp2_with fail
  obtain ⟨w0, ew0⟩ : ∃ w0, w0 = (w.alloc (.cells sup0.arr 27)).alloc (.cells sup0.arr 27) := ⟨_, rfl⟩
  have hP0 : SpA g B off c 8 xs sup0.arr w w0 := by
    rw [ew0]
    obtain ⟨k1, k2, k3, k4, k5⟩ := H.out
    refine ⟨((Only.refl _ _).alloc _).alloc _, ⟨(k1.alloc _).alloc _, k2, k3, by simp; omega, fun i hi => ?_⟩, Blk.newAt _ _ _ _ (by simp), _, (Blk.newAt _ _ _ _ rfl).alloc _, rfl⟩
    rw [← k5 i hi]
    exact cell_of_heap ((Below.heap_alloc _ _ _ (by simp; omega)).trans (Below.heap_alloc _ _ _ k4)) _
  simp only [sup0, Sup.arr] at ew0
  rw [← ew0]
  have HP := Lib.hid hP0
  clear hP0 ew0 H
  obtain ⟨wr, ewr⟩ : ∃ x, x = w0 := ⟨_, rfl⟩
  rw [← ewr] at HP ⊢
  clear ewr w0
  rcases Classical.em (¬ (1 ≤ sq ∧ sq ≤ 4611686018427387904)) with hsq | hsq
  · refine (within_bad g B off c 8 8 xs 1 4611686018427387904 sq wr HP.out.2.1 (by omega) (by have := EL.out; omega) (by have := EL.out; omega) Esq.out (by omega)).mono ?_
    rintro e w1 ⟨rfl, hN⟩
    have hfin : SpQ g xs w (.panicked badF) w1 := .inr ⟨fun hG => hsq ⟨by rw [Esq.out]; exact hG.1.1, by rw [Esq.out]; exact hG.1.2.1⟩, rfl, HP.out.1.trans hN⟩
    have HF := Lib.hid hfin
    clear hfin hN
    go_wp2_with fail
    exact ⟨rfl, HF.out⟩
  obtain ⟨hsqa, hsqb⟩ := Classical.not_not.1 hsq
  clear hsq
  refine (within_ok g B off c 8 8 xs 1 4611686018427387904 sq wr HP.out.2.1 (by omega) (by have := EL.out; omega) (by have := EL.out; omega) Esq.out hsqa hsqb (by omega) (by omega)).mono ?_
  rintro e w1 ⟨rfl, hN⟩
  have hP1 := HP.out.taken hgl hN
  have q0 := hP1.2.2.1.cell 0
  have r0 := hP1.2.2.1.free 0
  simp only [sup0, Sup.arr, List.getElem?_toArray, List.getElem?_cons_zero, List.getElem?_cons_succ] at q0
  have hP2 : SpA g B off c 16 xs #[.int .u64 sq, .int .i64 0, .int .i64 0, .int .i64 0, .int .u64 0, .int .u64 0, .int .u64 0, .int .u64 0, .int .u32 0, .int .i64 0] w (w1.setCell ⟨w.heap.size + 1, 0, none⟩ (.int .u64 sq)) := hP1.put hgl hBl 0 (.int .u64 sq)
  have HP2 := Lib.hid hP2
  clear hP1 hP2 hN
  go_wp2_with fail
  clear q0 r0 HP
  obtain ⟨wx, rfl⟩ : ∃ wx, wx = wr := ⟨_, rfl⟩
  obtain ⟨wr, ewr⟩ : ∃ x, x = w1.setCell ⟨w.heap.size + 1, 0, none⟩ (.int .u64 sq) := ⟨_, rfl⟩
  rw [← ewr] at HP2 ⊢
  obtain ⟨HP, eHP⟩ : ∃ H : Hid _, H = HP2 := ⟨_, rfl⟩
  clear eHP HP2 ewr
  rcases Classical.em (¬ (1 ≤ bl ∧ bl ≤ 4096)) with hbl | hbl
  · refine (within_bad g B off c 16 4 xs 1 4096 bl wr HP.out.2.1 (by omega) (by have := EL.out; omega) (by have := EL.out; omega) Ebl.out (by omega)).mono ?_
    rintro e w1 ⟨rfl, hN⟩
    have hfin : SpQ g xs w (.panicked badF) w1 := .inr ⟨fun hG => hbl ⟨by rw [Ebl.out]; exact hG.1.2.2.1, by rw [Ebl.out]; exact hG.1.2.2.2.1⟩, rfl, HP.out.1.trans hN⟩
    have HF := Lib.hid hfin
    clear hfin hN
    go_wp2_with fail
    exact ⟨rfl, HF.out⟩
  obtain ⟨hbla, hblb⟩ := Classical.not_not.1 hbl
  clear hbl
  refine (within_ok g B off c 16 4 xs 1 4096 bl wr HP.out.2.1 (by omega) (by have := EL.out; omega) (by have := EL.out; omega) Ebl.out hbla hblb (by omega) (by omega)).mono ?_
  rintro e w1 ⟨rfl, hN⟩
  have hP1 := HP.out.taken hgl hN
  have q0 := hP1.2.2.1.cell 1
  have r0 := hP1.2.2.1.free 1
  simp only [sup0, Sup.arr, List.getElem?_toArray, List.getElem?_cons_zero, List.getElem?_cons_succ] at q0
  have hP2 : SpA g B off c 20 xs #[.int .u64 sq, .int .i64 bl, .int .i64 0, .int .i64 0, .int .u64 0, .int .u64 0, .int .u64 0, .int .u64 0, .int .u32 0, .int .i64 0] w (w1.setCell ⟨w.heap.size + 1, 1, none⟩ (.int .i64 bl)) := hP1.put hgl hBl 1 (.int .i64 bl)
  have HP2 := Lib.hid hP2
  clear hP1 hP2 hN
  go_wp2_with fail
  clear q0 r0 HP
  obtain ⟨wx, rfl⟩ : ∃ wx, wx = wr := ⟨_, rfl⟩
  obtain ⟨wr, ewr⟩ : ∃ x, x = w1.setCell ⟨w.heap.size + 1, 1, none⟩ (.int .i64 bl) := ⟨_, rfl⟩
  rw [← ewr] at HP2 ⊢
  obtain ⟨HP, eHP⟩ : ∃ H : Hid _, H = HP2 := ⟨_, rfl⟩
  clear eHP HP2 ewr
  have c0 := HP.out.2.1.1.cell 0
  simp only [List.getElem?_toArray, List.getElem?_cons_zero, List.getElem?_cons_succ] at c0
  rw [← EL.out] at c0
  go_wp2_with fail
  go_still_tail 15, (by kernel_rfl)
  go_wp2_with fail
  have HP2 := Lib.hid (HP.out.drewN 1)
  clear c0 HP
  obtain ⟨wx, rfl⟩ : ∃ wx, wx = wr := ⟨_, rfl⟩
  obtain ⟨wr, ewr⟩ : ∃ x, x = wx.drew := ⟨_, rfl⟩
  change Hid (SpA g B off c 20 xs _ w wx.drew) at HP2
  rw [← ewr] at HP2 ⊢
  obtain ⟨HP, eHP⟩ : ∃ H : Hid _, H = HP2 := ⟨_, rfl⟩
  clear eHP HP2 ewr
  have eLw : IntKind.u64.wrap (L : Int) = L := by rw [IntKind.wrap_u64]; omega
  rw [eLw]
  clear eLw
  rcases Classical.em (¬ ((L : Int) ≤ sz ∧ sz ≤ (L : Int))) with hsz | hsz
  · refine (within_bad g B off c 20 4 xs (L : Int) (L : Int) sz wr HP.out.2.1 (by omega) (by have := EL.out; omega) (by have := EL.out; omega) Esz.out (by omega)).mono ?_
    rintro e w1 ⟨rfl, hN⟩
    have hfin : SpQ g xs w (.panicked badF) w1 := .inr ⟨fun hG => hsz ⟨by rw [Esz.out, EL.out]; exact Int.le_of_eq hG.2.1.symm, by rw [Esz.out, EL.out]; exact Int.le_of_eq hG.2.1⟩, rfl, HP.out.1.trans hN⟩
    have HF := Lib.hid hfin
    clear hfin hN
    go_wp2_with fail
    exact ⟨rfl, HF.out⟩
  obtain ⟨hsza, hszb⟩ := Classical.not_not.1 hsz
  clear hsz
  refine (within_ok g B off c 20 4 xs (L : Int) (L : Int) sz wr HP.out.2.1 (by omega) (by have := EL.out; omega) (by have := EL.out; omega) Esz.out hsza hszb (by omega) (by omega)).mono ?_
  rintro e w1 ⟨rfl, hN⟩
  have hP1 := HP.out.taken hgl hN
  have q0 := hP1.2.2.1.cell 2
  have r0 := hP1.2.2.1.free 2
  simp only [sup0, Sup.arr, List.getElem?_toArray, List.getElem?_cons_zero, List.getElem?_cons_succ] at q0
  have hP2 : SpA g B off c 24 xs #[.int .u64 sq, .int .i64 bl, .int .i64 sz, .int .i64 0, .int .u64 0, .int .u64 0, .int .u64 0, .int .u64 0, .int .u32 0, .int .i64 0] w (w1.setCell ⟨w.heap.size + 1, 2, none⟩ (.int .i64 sz)) := hP1.put hgl hBl 2 (.int .i64 sz)
  have HP2 := Lib.hid hP2
  clear hP1 hP2 hN
  go_wp2_with fail
  clear q0 r0 HP
  obtain ⟨wx, rfl⟩ : ∃ wx, wx = wr := ⟨_, rfl⟩
  obtain ⟨wr, ewr⟩ : ∃ x, x = w1.setCell ⟨w.heap.size + 1, 2, none⟩ (.int .i64 sz) := ⟨_, rfl⟩
  rw [← ewr] at HP2 ⊢
  obtain ⟨HP, eHP⟩ : ∃ H : Hid _, H = HP2 := ⟨_, rfl⟩
  clear eHP HP2 ewr
  rcases Classical.em (¬ (1 ≤ sl ∧ sl ≤ 16)) with hsl | hsl
  · refine (within_bad g B off c 24 4 xs 1 16 sl wr HP.out.2.1 (by omega) (by have := EL.out; omega) (by have := EL.out; omega) Esl.out (by omega)).mono ?_
    rintro e w1 ⟨rfl, hN⟩
    have hfin : SpQ g xs w (.panicked badF) w1 := .inr ⟨fun hG => hsl ⟨by rw [Esl.out]; exact hG.1.2.2.2.2.2.1, by rw [Esl.out]; exact hG.1.2.2.2.2.2.2.1⟩, rfl, HP.out.1.trans hN⟩
    have HF := Lib.hid hfin
    clear hfin hN
    go_wp2_with fail
    exact ⟨rfl, HF.out⟩
  obtain ⟨hsla, hslb⟩ := Classical.not_not.1 hsl
  clear hsl
  refine (within_ok g B off c 24 4 xs 1 16 sl wr HP.out.2.1 (by omega) (by have := EL.out; omega) (by have := EL.out; omega) Esl.out hsla hslb (by omega) (by omega)).mono ?_
  rintro e w1 ⟨rfl, hN⟩
  have hP1 := HP.out.taken hgl hN
  have q0 := hP1.2.2.1.cell 3
  have r0 := hP1.2.2.1.free 3
  simp only [sup0, Sup.arr, List.getElem?_toArray, List.getElem?_cons_zero, List.getElem?_cons_succ] at q0
  have p1 := hP1.2.2.1.cell 1
  simp only [List.getElem?_toArray, List.getElem?_cons_zero, List.getElem?_cons_succ] at p1
  have hP2 : SpA g B off c 28 xs #[.int .u64 sq, .int .i64 bl, .int .i64 sz, .int .i64 sl, .int .u64 0, .int .u64 0, .int .u64 0, .int .u64 0, .int .u32 0, .int .i64 0] w (w1.setCell ⟨w.heap.size + 1, 3, none⟩ (.int .i64 sl)) := hP1.put hgl hBl 3 (.int .i64 sl)
  have HP2 := Lib.hid hP2
  clear hP1 hP2 hN
  go_wp2_with fail
  clear q0 r0 HP p1
  obtain ⟨wx, rfl⟩ : ∃ wx, wx = wr := ⟨_, rfl⟩
  obtain ⟨wr, ewr⟩ : ∃ x, x = w1.setCell ⟨w.heap.size + 1, 3, none⟩ (.int .i64 sl) := ⟨_, rfl⟩
  rw [← ewr] at HP2 ⊢
  obtain ⟨HP, eHP⟩ : ∃ H : Hid _, H = HP2 := ⟨_, rfl⟩
  clear eHP HP2 ewr
  rcases Classical.em (¬ (0 ≤ mr ∧ mr ≤ bl)) with hmr | hmr
  · refine (within_bad g B off c 28 4 xs 0 bl mr wr HP.out.2.1 (by omega) (by have := EL.out; omega) (by have := EL.out; omega) Emr.out (by omega)).mono ?_
    rintro e w1 ⟨rfl, hN⟩
    have hfin : SpQ g xs w (.panicked badF) w1 := .inr ⟨fun hG => hmr ⟨by rw [Emr.out]; exact hG.1.2.2.2.2.2.2.2.1, by rw [Emr.out, Ebl.out]; exact hG.1.2.2.2.2.2.2.2.2.1⟩, rfl, HP.out.1.trans hN⟩
    have HF := Lib.hid hfin
    clear hfin hN
    go_wp2_with fail
    exact ⟨rfl, HF.out⟩
  obtain ⟨hmra, hmrb⟩ := Classical.not_not.1 hmr
  clear hmr
  refine (within_ok g B off c 28 4 xs 0 bl mr wr HP.out.2.1 (by omega) (by have := EL.out; omega) (by have := EL.out; omega) Emr.out hmra hmrb (by omega) (by omega)).mono ?_
  rintro e w1 ⟨rfl, hN⟩
  have hP1 := HP.out.taken hgl hN
  have q0 := hP1.2.2.1.cell 9
  have r0 := hP1.2.2.1.free 9
  simp only [sup0, Sup.arr, List.getElem?_toArray, List.getElem?_cons_zero, List.getElem?_cons_succ] at q0
  have hP2 : SpA g B off c 32 xs #[.int .u64 sq, .int .i64 bl, .int .i64 sz, .int .i64 sl, .int .u64 0, .int .u64 0, .int .u64 0, .int .u64 0, .int .u32 0, .int .i64 mr] w (w1.setCell ⟨w.heap.size + 1, 9, none⟩ (.int .i64 mr)) := hP1.put hgl hBl 9 (.int .i64 mr)
  have HP2 := Lib.hid hP2
  clear hP1 hP2 hN
  go_wp2_with fail
  clear q0 r0 HP
  obtain ⟨wx, rfl⟩ : ∃ wx, wx = wr := ⟨_, rfl⟩
  obtain ⟨wr, ewr⟩ : ∃ x, x = w1.setCell ⟨w.heap.size + 1, 9, none⟩ (.int .i64 mr) := ⟨_, rfl⟩
  rw [← ewr] at HP2 ⊢
  obtain ⟨HP, eHP⟩ : ∃ H : Hid _, H = HP2 := ⟨_, rfl⟩
  clear eHP HP2 ewr
  have HG0 := Lib.hid (HP.out.drewN 1)
  change Hid (SpA g B off c 32 xs _ w wr.drew) at HG0
  have ACu : fld xs 32 8 = numF ((xs.drop 32).take 8) := rfl
  go_wp2_with fail
  clear HP
  go_region_with (first
    | (go_at_call 33; refine (number_ok _ g B off c 56 8 xs _ HG3.out.2.1 (by omega) (by have := EL.out; omega) (by have := EL.out; omega)).mono ?_; rintro e w1 ⟨rfl, hN⟩; have HG4 := Lib.hid (HG3.out.taken hgl hN); clear HG3 hN; rw [show numF ((xs.drop 56).take 8) = o2 from Eo2.out.symm]; have k4 := HG4.out.2.2.1.cell 4; have k5 := HG4.out.2.2.1.cell 5; have k6 := HG4.out.2.2.1.cell 6; have k7 := HG4.out.2.2.1.cell 7; have r4 := HG4.out.2.2.1.free 4; have r5 := HG4.out.2.2.1.free 5; have r6 := HG4.out.2.2.1.free 6; have r7 := HG4.out.2.2.1.free 7; simp only [List.getElem?_toArray, List.getElem?_cons_zero, List.getElem?_cons_succ] at k4 k5 k6 k7)
    | (go_at_call 33; refine (number_ok _ g B off c 48 8 xs _ HG2.out.2.1 (by omega) (by have := EL.out; omega) (by have := EL.out; omega)).mono ?_; rintro e w1 ⟨rfl, hN⟩; have HG3 := Lib.hid (HG2.out.taken hgl hN); clear HG2 hN; rw [show numF ((xs.drop 48).take 8) = o1 from Eo1.out.symm])
    | (go_at_call 33; refine (number_ok _ g B off c 40 8 xs _ HG1.out.2.1 (by omega) (by have := EL.out; omega) (by have := EL.out; omega)).mono ?_; rintro e w1 ⟨rfl, hN⟩; have HG2 := Lib.hid (HG1.out.taken hgl hN); clear HG1 hN; rw [show numF ((xs.drop 40).take 8) = bm from Ebm.out.symm])
    | (go_at_call 33; refine (number_ok _ g B off c 32 8 xs _ HG0.out.2.1 (by omega) (by have := EL.out; omega) (by have := EL.out; omega)).mono ?_; rintro e w1 ⟨rfl, hN⟩; have HG1 := Lib.hid (HG0.out.taken hgl hN); clear HG0 hN; rw [show numF ((xs.drop 32).take 8) = cu from Ecu.out.symm]))
  have HP2 := Lib.hid ((((HG4.out.put hgl hBl 4 (.int .u64 cu)).put hgl hBl 5 (.int .u64 bm)).put hgl hBl 6 (.int .u64 o1)).put hgl hBl 7 (.int .u64 o2))
  clear k4 k5 k6 k7 r4 r5 r6 r7 HG4
  obtain ⟨wx, rfl⟩ : ∃ wx, wx = wr := ⟨_, rfl⟩
  obtain ⟨wr, ewr⟩ : ∃ x, x = ((((w1.setCell ⟨w.heap.size + 1, 4, none⟩ (.int .u64 cu)).setCell ⟨w.heap.size + 1, 5, none⟩ (.int .u64 bm)).setCell ⟨w.heap.size + 1, 6, none⟩ (.int .u64 o1)).setCell ⟨w.heap.size + 1, 7, none⟩ (.int .u64 o2)) := ⟨_, rfl⟩
  change Hid (SpA g B off c 64 xs #[.int .u64 sq, .int .i64 bl, .int .i64 sz, .int .i64 sl, .int .u64 cu, .int .u64 bm, .int .u64 o1, .int .u64 o2, .int .u32 0, .int .i64 mr] w _) at HP2
  rw [← ewr] at HP2 ⊢
  obtain ⟨HP, eHP⟩ : ∃ H : Hid _, H = HP2 := ⟨_, rfl⟩
  clear eHP HP2 ewr
  go_wp2_with fail
  rcases Classical.em (¬ (0 ≤ fl ∧ fl ≤ 15)) with hfl | hfl
  · refine (within_bad g B off c 64 4 xs 0 15 fl wr HP.out.2.1 (by omega) (by have := EL.out; omega) (by have := EL.out; omega) Efl.out (by omega)).mono ?_
    rintro e w1 ⟨rfl, hN⟩
    have hfin : SpQ g xs w (.panicked badF) w1 := .inr ⟨fun hG => hfl ⟨by rw [Efl.out]; exact bfl1', by rw [Efl.out]; exact hG.1.2.2.2.2.2.2.2.2.2⟩, rfl, HP.out.1.trans hN⟩
    have HF := Lib.hid hfin
    clear hfin hN
    go_wp2_with fail
    exact ⟨rfl, HF.out⟩
  obtain ⟨hfla, hflb⟩ := Classical.not_not.1 hfl
  clear hfl
  refine (within_ok g B off c 64 4 xs 0 15 fl wr HP.out.2.1 (by omega) (by have := EL.out; omega) (by have := EL.out; omega) Efl.out hfla hflb (by omega) (by omega)).mono ?_
  rintro e w1 ⟨rfl, hN⟩
  have hP1 := HP.out.taken hgl hN
  have q0 := hP1.2.2.1.cell 8
  have r0 := hP1.2.2.1.free 8
  simp only [sup0, Sup.arr, List.getElem?_toArray, List.getElem?_cons_zero, List.getElem?_cons_succ] at q0
  have hP2 : SpA g B off c 68 xs #[.int .u64 sq, .int .i64 bl, .int .i64 sz, .int .i64 sl, .int .u64 cu, .int .u64 bm, .int .u64 o1, .int .u64 o2, .int .u32 fl, .int .i64 mr] w (w1.setCell ⟨w.heap.size + 1, 8, none⟩ (.int .u32 fl)) := hP1.put hgl hBl 8 (.int .u32 fl)
  have HP2 := Lib.hid hP2
  clear hP1 hP2 hN
  go_wp2_with fail
  clear q0 r0 HP
  obtain ⟨wx, rfl⟩ : ∃ wx, wx = wr := ⟨_, rfl⟩
  obtain ⟨wr, ewr⟩ : ∃ x, x = w1.setCell ⟨w.heap.size + 1, 8, none⟩ (.int .u32 fl) := ⟨_, rfl⟩
  rw [← ewr] at HP2 ⊢
  obtain ⟨HP, eHP⟩ : ∃ H : Hid _, H = HP2 := ⟨_, rfl⟩
  clear eHP HP2 ewr
  obtain ⟨ar, ear⟩ : ∃ ar : Array Value, ar = #[.int .u64 sq, .int .i64 bl, .int .i64 sz, .int .i64 sl, .int .u64 cu, .int .u64 bm, .int .u64 o1, .int .u64 o2, .int .u32 fl, .int .i64 mr] := ⟨_, rfl⟩
  rw [← ear] at HP
  have Ear := Lib.hid ear
  clear ear
  go_loopw [60] (fun _ wr => ∃ i, 68 ≤ i ∧ i + 32 ≤ L ∧ SpA g B off c i xs ar w wr ∧ ∀ j, 68 ≤ j → j < i → xs.getD j 0 = 0) (fun _ wr => L - atOf g wr)
  case atStart => exact ⟨68, by omega, by omega, HP.out, fun j h1 h2 => by omega⟩
  case round =>
    clear HP
    obtain ⟨i, hi1, hi2, hP, hZ⟩ := hrel
    have HP := Lib.hid hP
    have HZe := Lib.hid hZ
    have hat := hP.2.1.atOf
    have Hat := Lib.hid hat
    have c0 := hP.2.1.1.cell 0
    have c1 := hP.2.1.1.cell 1
    simp only [List.getElem?_toArray, List.getElem?_cons_zero, List.getElem?_cons_succ] at c0 c1
    rw [← EL.out] at c0
    clear hP hZ hat
    by_cases hlt : i + 32 < L
    · obtain ⟨v, ev⟩ : ∃ v, v = fld xs i 1 := ⟨_, rfl⟩
      have bv := (fld_bound xs i 1 HB.out (by omega) (by have := EL.out; omega)).1
      have ev2 := fld_one xs i HB.out (by have := EL.out; omega)
      rw [← ev] at bv ev2
      have Ev := Lib.hid ev
      have Ev2 := Lib.hid ev2
      clear ev ev2
      have tb : decide ((i : Int) < (L : Int) - 32) = true := by simp; omega
      go_wp2_with fail
      go_quiet (fail)
      go_wp2_with fail
      rcases Classical.em (¬ (0 ≤ v ∧ v ≤ 0)) with hv | hv
      · refine (within_bad g B off c i 1 xs 0 0 v (wr.drewN nq) HP.out.2.1 (by omega) (by have := EL.out; omega) (by have := EL.out; omega) Ev.out (by omega)).mono ?_
        rintro e w1 ⟨rfl, hN⟩
        have hfin : SpQ g xs w (.panicked badF) w1 := .inr ⟨fun hG => hv (by have := hG.2.2 i hi1 (by have := EL.out; omega); have := Ev2.out; omega), rfl, (HP.out.drewN nq).1.trans hN⟩
        have HF := Lib.hid hfin
        clear hfin hN
        go_wp2_with fail
        exact ⟨rfl, HF.out⟩
      · obtain ⟨hva, hvb⟩ := Classical.not_not.1 hv
        clear hv
        refine (within_ok g B off c i 1 xs 0 0 v (wr.drewN nq) HP.out.2.1 (by omega) (by have := EL.out; omega) (by have := EL.out; omega) Ev.out hva hvb (by omega) (by omega)).mono ?_
        rintro e w1 ⟨rfl, hN⟩
        have hP1 := (HP.out.drewN nq).taken hgl hN
        have HP1 := Lib.hid hP1
        have hat1 := hP1.2.1.atOf
        have Hat1 := Lib.hid hat1
        clear hP1 hN hat1 c0 c1
        go_wp2_with fail
        go_roundw
        case rel => exact ⟨i + 1, by omega, by omega, HP1.out, fun j h1 h2 => by
          by_cases e : j = i
          · subst e; have := Ev2.out; omega
          · exact HZe.out j h1 (by omega)⟩
        case measure => rw [Hat1.out, Hat.out]; omega
    · have ei : i + 32 = L := by omega
      have tb : decide ((i : Int) < (L : Int) - 32) = false := by simp; omega
      obtain ⟨cur, hc1, hc2⟩ := HP.out.2.2.2
      have hM := HP.out.2.2.1
      have k1 : (Tryd.prog.info? 27).map (·.size) = some ar.size := by rw [Ear.out]; kernel_rfl
      have k2 : cur.size = ar.size := by rw [hc2, Ear.out]; rfl
      have k3 : ar.all (·.oneCell') = true := by rw [Ear.out]; exact all_oneCell_toArray (fun v hv => by simp only [List.mem_cons, List.not_mem_nil, or_false] at hv; rcases hv with rfl | rfl | rfl | rfl | rfl | rfl | rfl | rfl | rfl | rfl <;> rfl)
      have hG : Good xs := by
        have e1 := EL.out
        refine ⟨⟨?_, ?_, ?_, ?_, ?_, ?_, ?_, ?_, ?_, ?_⟩, ?_, fun j h1 h2 => HZe.out j h1 (by omega)⟩
        · show 1 ≤ fld xs 8 8; rw [← Esq.out]; exact hsqa
        · show fld xs 8 8 ≤ _; rw [← Esq.out]; exact hsqb
        · show 1 ≤ fld xs 16 4; rw [← Ebl.out]; exact hbla
        · show fld xs 16 4 ≤ _; rw [← Ebl.out]; exact hblb
        · show okSize (fld xs 20 4); rw [← Esz.out, show sz = (xs.length : Int) by omega]; exact HZ.out
        · show 1 ≤ fld xs 24 4; rw [← Esl.out]; exact hsla
        · show fld xs 24 4 ≤ _; rw [← Esl.out]; exact hslb
        · show 0 ≤ fld xs 28 4; rw [← Emr.out]; exact hmra
        · show fld xs 28 4 ≤ fld xs 16 4; rw [← Emr.out, ← Ebl.out]; exact hmrb
        · show fld xs 64 4 ≤ _; rw [← Efl.out]; exact hflb
        · show fld xs 20 4 = _; rw [← Esz.out]; omega
      have hfin : ar = (supOf xs).arr := by
        rw [Ear.out, Esq.out, Ebl.out, Esz.out, Esl.out, Ecu.out, Ebm.out, Eo1.out, Eo2.out, Efl.out, Emr.out]; rfl
      have HG := Lib.hid hG
      have Hfin := Lib.hid hfin
      have Hc1 := Lib.hid hc1
      have HM := Lib.hid hM
      have K1 := Lib.hid k1
      have K2 := Lib.hid k2
      have K3 := Lib.hid k3
      clear hc1 hc2 hM k1 k2 k3 hG hfin
      go_wp2_with fail
      go_quiet (fail)
      go_wp2_with (first | (with_reducible refine wpList_load_row rfl 27 (.tmp 3) rfl _ rfl 27 ar (0, 0) _ HM.out.out Tryd.underlying27 rfl K1.out ?_) | (with_reducible refine wpList_store_row rfl 27 (.tmp 2) (.tmp 74) rfl _ ar rfl rfl 27 cur Hc1.out.out K1.out K2.out K3.out ?_))
      refine bodyPost_ret (v := .agg ar) (results_cell_row (t := 27) (fr := (0, 0)) rfl _ _ w.heap.size _ _ rfl (Hc1.out.setRow _).out Tryd.underlying27 rfl K1.out) rfl (.inl ⟨HG.out, by rw [Hfin.out], ?_⟩)
      have ho := HP.out.1
      exact ⟨ho.os, ho.tape, ho.output, by rw [size_setRow]; exact ho.size, fun k hk hb => (heap_setRow _ _ _ _ (by omega)).trans (ho.block k hk hb)⟩
end Go.Proofs.YtgehbfnfhjpjbaaDoor
