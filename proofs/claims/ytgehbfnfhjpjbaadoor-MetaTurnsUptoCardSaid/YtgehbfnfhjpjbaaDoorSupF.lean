/- A superblock sealed: Seal. -/
import Derived.Test.YtgehbfnfhjpjbaaDoorSupE
import Derived.Deep.DeepCutAuto
namespace Go.Proofs.YtgehbfnfhjpjbaaDoor
open Go.RowKit
set_option linter.unusedVariables false
set_option linter.unusedSimpArgs false
/-- What is known behind the digest's statement. -/
def CutR (B : Nat) (sa : Array Value) (v : World) (t : Value) (wx : World) : Prop := ∃ D, t = .pointer (some ⟨D, 0, none⟩) ∧ Blk wx D 67 sa ∧ B + 1 < D ∧ Below v.heap.size v wx
theorem run_storeAt_row' {P : Program} (w : World) (g : Nat) (t : TypeId) (c c' : Array Value) (hg : w.heap[g]? = some (.cells c t (0, 0))) (hi : (P.info? t).map (·.size) = some c'.size) (ho : c.size = c'.size) (h1 : c'.all (·.oneCell') = true) :
    (Instr.storeAt t (.pointer (some ⟨g, 0, none⟩)) (.agg c')).run P w = .ok () (w.setRow g c') := by
  simp only [Instr.storeAt, Instr.sureAddr, Sem.run_bind, Sem.run_pure, Result.andThen]
  exact run_storeVar_row _ _ t t c c' hg hi ho h1
theorem run_storeCells_row' {P : Program} (w : World) (g : Nat) (t : TypeId) (c c' : Array Value) (hg : w.heap[g]? = some (.cells c t (0, 0))) (hi : (P.info? t).map (·.size) = some c'.size) (ho : c.size = c'.size) (h1 : c'.all (·.oneCell') = true) :
    (storeCells ⟨g, 0, none⟩ c'.toList 0).run P w = .ok () (w.setRow g c') := by
  have := run_storeVar_row (P := P) w g t t c c' hg hi ho h1
  cases hq : P.info? t with
  | none => simp [hq] at hi
  | some i =>
    have hs : c'.size = i.size := by simp [hq] at hi; omega
    simpa [storeVar, sizeOf, typeInfo, hq, Value.cells, hs] using this
/-- What Seal answers. -/
def SlQ (K : Nat → Int) (S : St) (s : Sup) (w : World) (e : Ending) (w' : World) : Prop :=
  Below w.heap.size w w' ∧ ((Fits s ∧ ∃ B, w.heap.size ≤ B ∧ e = .returned (.tuple #[.slice (some ⟨B, 0, none⟩) s.sz.toNat s.sz.toNat, .int .i64 0]) ∧ RowA .u8 5 w' B s.sz.toNat (fun i => (sealL K S s).getD i 0)) ∨ (¬ Fits s ∧ e = .returned (.tuple #[.slice none 0 0, .int .i64 53])))
set_option maxHeartbeats 4000000 in
set_option maxRecDepth 100000 in
theorem seal_ok (K : Nat → Int) (S : St) (s : Sup) (w : World) (hT : Tab K S w) (h1 : 0 ≤ s.fl) (h2 : s.fl < 4294967296) (hc1 : 0 ≤ s.cu) (hc2 : 0 ≤ s.bm) (hc3 : 0 ≤ s.o1) (hc4 : 0 ≤ s.o2) :
    Calls Tryd.prog 7 #[.agg s.arr] w (SlQ K S s w) := by
  obtain ⟨wb, ewb⟩ : ∃ wb, wb = w.alloc (.cells s.arr 27) := ⟨_, rfl⟩
  have hft := fits_ok s wb h1 h2
  have hA0 : Blk wb w.heap.size 27 s.arr := by rw [ewb]; exact Blk.newAt _ _ _ _ rfl
  have hbb : Below w.heap.size w wb := by rw [ewb]; exact (Below.refl _ _).alloc (Nat.le_refl _) _
  have HA0 := Lib.hid hA0
  have HBB := Lib.hid hbb
  have HF := Lib.hid hft
  have HT := Lib.hid hT
  have b0 := hA0.cell 0
  have b1 := hA0.cell 1
  have b2 := hA0.cell 2
  have b3 := hA0.cell 3
  have b4 := hA0.cell 4
  have b5 := hA0.cell 5
  have b6 := hA0.cell 6
  have b7 := hA0.cell 7
  have b8 := hA0.cell 8
  have b9 := hA0.cell 9
  clear hft hT hA0 hbb
  go_enter Tryd.func7, Tryd.ntmps7
  rw [Sup.arr] at ewb b0 b1 b2 b3 b4 b5 b6 b7 b8 b9 ⊢
  go_wp2_with fail
  rw [← ewb]
  refine HF.out.mono ?_
  rintro e w1 ⟨⟨r, rfl, hr⟩, hb1⟩
  have hA1 : Blk w1 w.heap.size 27 s.arr := HA0.out.below hb1 HA0.out.lt
  have hbw1 : Below w.heap.size w w1 := HBB.out.trans (hb1.mono (Nat.le_of_lt HA0.out.lt))
  have hs1 : w.heap.size < w1.heap.size := hA1.lt
  clear b0 b1 b2 b3 b4 b5 b6 b7 b8 b9 ewb
  rcases r with _ | _
  · have hno : ¬ Fits s := fun h => Bool.noConfusion (hr.2 h)
    have hfin : SlQ K S s w (.returned (.tuple #[.slice none 0 0, .int .i64 53])) w1 := ⟨hbw1, .inr ⟨hno, rfl⟩⟩
    have HF2 := Lib.hid hfin
    clear hr hno hfin hb1 hA1 hbw1
    go_wp2_with fail
    go_ret2
    exact HF2.out
  have hfit : Fits s := hr.1 rfl
  obtain ⟨g1, g2, g3, g4, g5, g6, g7, g8, g9, g10⟩ := hfit
  have HFit := Lib.hid (show Fits s from hr.1 rfl)
  obtain ⟨N, eN⟩ : ∃ N : Nat, N = s.sz.toNat := ⟨_, rfl⟩
  have hN : s.sz = (N : Int) := by unfold okSize at g5; omega
  have hN1 : 128 ≤ N := by unfold okSize at g5; omega
  have hN2 : N ≤ 1024 := by unfold okSize at g5; omega
  have b2 := hA1.cell 2
  simp only [Sup.arr, List.getElem?_toArray, List.getElem?_cons_zero, List.getElem?_cons_succ, hN] at b2
  have hmk := fun w => run_make_row' (P := Tryd.prog) 29 5 (.int .u8 0) 1 Tryd.underlying29 hd_info5 rfl .i64 .i64 N (by omega) (by omega) w
  obtain ⟨W, eW⟩ : ∃ W, W = ((w1.alloc (.cells (madeCells #[.int .u8 0] N) 5)).alloc (.cells #[.slice (some ⟨w1.heap.size, 0, none⟩) N N, .int .i64 0] 64)) := ⟨_, rfl⟩
  have hrow : Blk W w1.heap.size 5 (madeCells #[.int .u8 0] N) := by rw [eW]; exact (Blk.newAt _ _ _ _ rfl).alloc _
  have hcur : Blk W (w1.heap.size + 1) 64 #[.slice (some ⟨w1.heap.size, 0, none⟩) N N, .int .i64 0] := by rw [eW]; exact Blk.newAt _ _ _ _ (by simp)
  have hbW : Below w.heap.size w W := by rw [eW]; exact (hbw1.alloc (by omega) _).alloc (by simp; omega) _
  have hAW : Blk W w.heap.size 27 s.arr := by rw [eW]; exact (hA1.alloc _).alloc _
  have hcp : ∀ ty, (Builtin.copy_ #[29, 9] ty #[.slice (some ⟨w1.heap.size, 0, none⟩) N N, .string { data := #[82, 69, 80, 76, 73, 67, 65, 49] }]).run Tryd.prog W = .ok (goInt 8) (W.setRow w1.heap.size (splice (madeCells #[Value.int .u8 0] N).toList 0 (lettersL.map (Value.int .u8))).toArray) := fun ty => by
    rw [Lib.run_copy_row_string W 29 9 ty 5 w1.heap.size 0 N N _ _ 5 Tryd.underlying29 hd_size5 hrow.out (by show 8 ≤ N; omega) (by show 0 + 8 ≤ _; rw [made_size]; omega)]
    rfl
  have hS : SeA (w1.heap.size + 1) w1.heap.size N lettersL s w ((W.setRow w1.heap.size (splice (madeCells #[Value.int .u8 0] N).toList 0 (lettersL.map (Value.int .u8))).toArray).setCell ⟨w1.heap.size + 1, 1, none⟩ (.int .i64 8)) := by
    refine ⟨(below_setRow hbW (by omega) _).setCell (by simp; omega) _, Blk.far ((heap_setRow _ _ _ _ (by omega)).trans hAW) (by simp; omega) _, ?_, ?_, by omega, Nat.le_refl _⟩
    · exact Blk.set (t := 64) (cs := #[.slice (some ⟨w1.heap.size, 0, none⟩) N N, .int .i64 0]) ((heap_setRow _ _ _ _ (by omega)).trans hcur) 1 (.int .i64 8)
    · exact RowA.far ⟨_, hrow.setRow _, letters_size N (by omega), fun i hi => letters_at N i hi (by omega)⟩ (by simp) _
  have p1 : (W.setRow w1.heap.size (splice (madeCells #[Value.int .u8 0] N).toList 0 (lettersL.map (Value.int .u8))).toArray).cell? ⟨w1.heap.size + 1, 1, none⟩ = some (.int .i64 0) := by
    rw [cell_setRow_other _ _ _ _ (by simp), hcur.cell]; rfl
  have p2 : (W.setRow w1.heap.size (splice (madeCells #[Value.int .u8 0] N).toList 0 (lettersL.map (Value.int .u8))).toArray).frozen? ⟨w1.heap.size + 1, 1, none⟩ = false :=
    Blk.free (t := 64) (cs := #[.slice (some ⟨w1.heap.size, 0, none⟩) N N, .int .i64 0]) ((heap_setRow _ _ _ _ (by omega)).trans hcur) 1
  have a0 : (W.setRow w1.heap.size (splice (madeCells #[Value.int .u8 0] N).toList 0 (lettersL.map (Value.int .u8))).toArray).cell? ⟨w.heap.size, 0, none⟩ = some (.int .u64 s.sq) := by
    rw [cell_setRow_other _ _ _ _ (by simp; omega), hAW.cell]; rfl
  obtain ⟨W2, eW2⟩ : ∃ W2, W2 = W.setRow w1.heap.size (splice (madeCells #[Value.int .u8 0] N).toList 0 (lettersL.map (Value.int .u8))).toArray := ⟨_, rfl⟩
  rw [← eW2] at hcp hS p1 p2 a0
  have HCP := Lib.hid hcp
  have HS := Lib.hid hS
  have EW := Lib.hid eW
  have EN := Lib.hid eN
  have HN := Lib.hid hN
  have hbw := Lib.hid hbw1
  clear hcp hS eW eW2 eN hN hr hb1 hA1 hbw1 hrow hcur hbW hAW
  go_wp2_with (rw [← EW.out]; refine wpList_copy_eq W rfl (.tmp 22) _ 29 9 rfl _ _ rfl rfl HCP.out ?_)
  -- THE LAYS
  have hll : lettersL.length = 8 := rfl
  have HLn := Lib.hid hll
  obtain ⟨l, el⟩ : ∃ l, l = lettersL := ⟨_, rfl⟩
  rw [← el] at HS HLn
  have EL0 := Lib.hid el
  have hng : w.heap.size < w1.heap.size + 1 := by omega
  clear hll el p1 p2 a0
  refine (lay_ok (w1.heap.size + 1) w1.heap.size N N _ 8 s.sq _ _ HS.out.2.2 (by omega) (by omega) (by have := HLn.out; omega) (by omega) (by omega)).mono ?_
  rintro e v1 ⟨rfl, hL⟩
  obtain ⟨l1, el1⟩ : ∃ x, x = l ++ be 8 s.sq := ⟨_, rfl⟩
  have hS2 := HS.out.laid hng hs1 hL
  have hl2 : l1.length = 16 := by rw [el1, List.length_append, be_length, HLn.out]
  rw [← el1] at hS2
  clear HS HLn hL
  have HS := Lib.hid hS2
  have HLn := Lib.hid hl2
  have EL1 := Lib.hid el1
  clear hS2 hl2 el1
  have a1 := HS.out.2.1.cell 1
  simp only [Sup.arr, List.getElem?_toArray, List.getElem?_cons_zero, List.getElem?_cons_succ] at a1
  have a2 := HS.out.2.1.cell 2
  simp only [Sup.arr, List.getElem?_toArray, List.getElem?_cons_zero, List.getElem?_cons_succ, HN.out] at a2
  have a3 := HS.out.2.1.cell 3
  simp only [Sup.arr, List.getElem?_toArray, List.getElem?_cons_zero, List.getElem?_cons_succ] at a3
  have a9 := HS.out.2.1.cell 9
  simp only [Sup.arr, List.getElem?_toArray, List.getElem?_cons_zero, List.getElem?_cons_succ] at a9
  go_wp2_with fail
  clear a1 a2 a3 a9
  have HS0 := Lib.hid (HS.out.alloc (.cells #[.int .i64 s.bl, .int .i64 N, .int .i64 s.sl, .int .i64 s.mr] 3))
  have HQ := Lib.hid (Blk.newAt v1 v1.heap.size 3 #[.int .i64 s.bl, .int .i64 N, .int .i64 s.sl, .int .i64 s.mr] rfl)
  have hq1 : w1.heap.size + 1 < v1.heap.size := HS.out.2.2.1.lt
  clear HS
  have HS := HS0
  clear HS0
  refine wp_loop_rounds 5 ?_
  rw [rounds_succ]
  go_wp2_with fail
  refine (lay_ok (w1.heap.size + 1) w1.heap.size N N _ 4 s.bl _ _ HS.out.2.2 (by omega) (by omega) (by have := HLn.out; omega) (by omega) (by omega)).mono ?_
  rintro e v2 ⟨rfl, hL⟩
  obtain ⟨l2, el2⟩ : ∃ x, x = l1 ++ be 4 s.bl := ⟨_, rfl⟩
  have hS2 := HS.out.laid hng hs1 hL
  have hl2 : l2.length = 20 := by rw [el2, List.length_append, be_length, HLn.out]
  rw [← el2] at hS2
  have hq2 := hL.1.blk HQ.out (by simp; omega)
  clear HQ
  have HQ := Lib.hid hq2
  clear hq2
  clear HS HLn hL
  have HS := Lib.hid hS2
  have HLn := Lib.hid hl2
  have EL2 := Lib.hid el2
  clear hS2 hl2 el2
  have cq := HQ.out.cell 1
  simp only [List.getElem?_toArray, List.getElem?_cons_zero, List.getElem?_cons_succ] at cq
  go_wp2_with fail
  rw [rounds_succ]
  go_wp2_with fail
  clear cq
  refine (lay_ok (w1.heap.size + 1) w1.heap.size N N _ 4 (N : Int) _ _ HS.out.2.2 (by omega) (by omega) (by have := HLn.out; omega) (by omega) (by omega)).mono ?_
  rintro e v3 ⟨rfl, hL⟩
  obtain ⟨l3, el3⟩ : ∃ x, x = l2 ++ be 4 (N : Int) := ⟨_, rfl⟩
  have hS2 := HS.out.laid hng hs1 hL
  have hl2 : l3.length = 24 := by rw [el3, List.length_append, be_length, HLn.out]
  rw [← el3] at hS2
  have hq2 := hL.1.blk HQ.out (by simp; omega)
  clear HQ
  have HQ := Lib.hid hq2
  clear hq2
  clear HS HLn hL
  have HS := Lib.hid hS2
  have HLn := Lib.hid hl2
  have EL3 := Lib.hid el3
  clear hS2 hl2 el3
  have cq := HQ.out.cell 2
  simp only [List.getElem?_toArray, List.getElem?_cons_zero, List.getElem?_cons_succ] at cq
  go_wp2_with fail
  rw [rounds_succ]
  go_wp2_with fail
  clear cq
  refine (lay_ok (w1.heap.size + 1) w1.heap.size N N _ 4 s.sl _ _ HS.out.2.2 (by omega) (by omega) (by have := HLn.out; omega) (by omega) (by omega)).mono ?_
  rintro e v4 ⟨rfl, hL⟩
  obtain ⟨l4, el4⟩ : ∃ x, x = l3 ++ be 4 s.sl := ⟨_, rfl⟩
  have hS2 := HS.out.laid hng hs1 hL
  have hl2 : l4.length = 28 := by rw [el4, List.length_append, be_length, HLn.out]
  rw [← el4] at hS2
  have hq2 := hL.1.blk HQ.out (by simp; omega)
  clear HQ
  have HQ := Lib.hid hq2
  clear hq2
  clear HS HLn hL
  have HS := Lib.hid hS2
  have HLn := Lib.hid hl2
  have EL4 := Lib.hid el4
  clear hS2 hl2 el4
  have cq := HQ.out.cell 3
  simp only [List.getElem?_toArray, List.getElem?_cons_zero, List.getElem?_cons_succ] at cq
  go_wp2_with fail
  rw [rounds_succ]
  go_wp2_with fail
  clear cq
  refine (lay_ok (w1.heap.size + 1) w1.heap.size N N _ 4 s.mr _ _ HS.out.2.2 (by omega) (by omega) (by have := HLn.out; omega) (by omega) (by omega)).mono ?_
  rintro e v5 ⟨rfl, hL⟩
  obtain ⟨l5, el5⟩ : ∃ x, x = l4 ++ be 4 s.mr := ⟨_, rfl⟩
  have hS2 := HS.out.laid hng hs1 hL
  have hl2 : l5.length = 32 := by rw [el5, List.length_append, be_length, HLn.out]
  rw [← el5] at hS2
  have hq2 := hL.1.blk HQ.out (by simp; omega)
  clear HQ
  have HQ := Lib.hid hq2
  clear hq2
  clear HS HLn hL
  have HS := Lib.hid hS2
  have HLn := Lib.hid hl2
  have EL5 := Lib.hid el5
  clear hS2 hl2 el5
  have a4 := HS.out.2.1.cell 4
  simp only [Sup.arr, List.getElem?_toArray, List.getElem?_cons_zero, List.getElem?_cons_succ] at a4
  have a5 := HS.out.2.1.cell 5
  simp only [Sup.arr, List.getElem?_toArray, List.getElem?_cons_zero, List.getElem?_cons_succ] at a5
  have a6 := HS.out.2.1.cell 6
  simp only [Sup.arr, List.getElem?_toArray, List.getElem?_cons_zero, List.getElem?_cons_succ] at a6
  have a7 := HS.out.2.1.cell 7
  simp only [Sup.arr, List.getElem?_toArray, List.getElem?_cons_zero, List.getElem?_cons_succ] at a7
  go_wp2_with fail
  rw [rounds_succ]
  go_wp2_with fail
  clear a4 a5 a6 a7
  clear HQ hq1
  have HS0 := Lib.hid (HS.out.alloc (.cells #[.int .u64 s.cu, .int .u64 s.bm, .int .u64 s.o1, .int .u64 s.o2] 22))
  have HQ := Lib.hid (Blk.newAt v5 v5.heap.size 22 #[.int .u64 s.cu, .int .u64 s.bm, .int .u64 s.o1, .int .u64 s.o2] rfl)
  have hq1 : w1.heap.size + 1 < v5.heap.size := HS.out.2.2.1.lt
  clear HS
  have HS := HS0
  clear HS0
  refine wp_loop_rounds 5 ?_
  rw [rounds_succ]
  go_wp2_with fail
  refine (lay_ok (w1.heap.size + 1) w1.heap.size N N _ 8 s.cu _ _ HS.out.2.2 (by omega) (by omega) (by have := HLn.out; omega) (by omega) (by omega)).mono ?_
  rintro e v6 ⟨rfl, hL⟩
  obtain ⟨l6, el6⟩ : ∃ x, x = l5 ++ be 8 s.cu := ⟨_, rfl⟩
  have hS2 := HS.out.laid hng hs1 hL
  have hl2 : l6.length = 40 := by rw [el6, List.length_append, be_length, HLn.out]
  rw [← el6] at hS2
  have hq2 := hL.1.blk HQ.out (by simp; omega)
  clear HQ
  have HQ := Lib.hid hq2
  clear hq2
  clear HS HLn hL
  have HS := Lib.hid hS2
  have HLn := Lib.hid hl2
  have EL6 := Lib.hid el6
  clear hS2 hl2 el6
  have cq := HQ.out.cell 1
  simp only [List.getElem?_toArray, List.getElem?_cons_zero, List.getElem?_cons_succ] at cq
  go_wp2_with fail
  rw [rounds_succ]
  go_wp2_with fail
  clear cq
  refine (lay_ok (w1.heap.size + 1) w1.heap.size N N _ 8 s.bm _ _ HS.out.2.2 (by omega) (by omega) (by have := HLn.out; omega) (by omega) (by omega)).mono ?_
  rintro e v7 ⟨rfl, hL⟩
  obtain ⟨l7, el7⟩ : ∃ x, x = l6 ++ be 8 s.bm := ⟨_, rfl⟩
  have hS2 := HS.out.laid hng hs1 hL
  have hl2 : l7.length = 48 := by rw [el7, List.length_append, be_length, HLn.out]
  rw [← el7] at hS2
  have hq2 := hL.1.blk HQ.out (by simp; omega)
  clear HQ
  have HQ := Lib.hid hq2
  clear hq2
  clear HS HLn hL
  have HS := Lib.hid hS2
  have HLn := Lib.hid hl2
  have EL7 := Lib.hid el7
  clear hS2 hl2 el7
  have cq := HQ.out.cell 2
  simp only [List.getElem?_toArray, List.getElem?_cons_zero, List.getElem?_cons_succ] at cq
  go_wp2_with fail
  rw [rounds_succ]
  go_wp2_with fail
  clear cq
  refine (lay_ok (w1.heap.size + 1) w1.heap.size N N _ 8 s.o1 _ _ HS.out.2.2 (by omega) (by omega) (by have := HLn.out; omega) (by omega) (by omega)).mono ?_
  rintro e v8 ⟨rfl, hL⟩
  obtain ⟨l8, el8⟩ : ∃ x, x = l7 ++ be 8 s.o1 := ⟨_, rfl⟩
  have hS2 := HS.out.laid hng hs1 hL
  have hl2 : l8.length = 56 := by rw [el8, List.length_append, be_length, HLn.out]
  rw [← el8] at hS2
  have hq2 := hL.1.blk HQ.out (by simp; omega)
  clear HQ
  have HQ := Lib.hid hq2
  clear hq2
  clear HS HLn hL
  have HS := Lib.hid hS2
  have HLn := Lib.hid hl2
  have EL8 := Lib.hid el8
  clear hS2 hl2 el8
  have cq := HQ.out.cell 3
  simp only [List.getElem?_toArray, List.getElem?_cons_zero, List.getElem?_cons_succ] at cq
  go_wp2_with fail
  rw [rounds_succ]
  go_wp2_with fail
  clear cq
  refine (lay_ok (w1.heap.size + 1) w1.heap.size N N _ 8 s.o2 _ _ HS.out.2.2 (by omega) (by omega) (by have := HLn.out; omega) (by omega) (by omega)).mono ?_
  rintro e v9 ⟨rfl, hL⟩
  obtain ⟨l9, el9⟩ : ∃ x, x = l8 ++ be 8 s.o2 := ⟨_, rfl⟩
  have hS2 := HS.out.laid hng hs1 hL
  have hl2 : l9.length = 64 := by rw [el9, List.length_append, be_length, HLn.out]
  rw [← el9] at hS2
  have hq2 := hL.1.blk HQ.out (by simp; omega)
  clear HQ
  have HQ := Lib.hid hq2
  clear hq2
  clear HS HLn hL
  have HS := Lib.hid hS2
  have HLn := Lib.hid hl2
  have EL9 := Lib.hid el9
  clear hS2 hl2 el9
  have a8 := HS.out.2.1.cell 8
  simp only [Sup.arr, List.getElem?_toArray, List.getElem?_cons_zero, List.getElem?_cons_succ] at a8
  go_wp2_with fail
  rw [rounds_succ]
  go_wp2_with fail
  clear a8
  clear HQ hq1
  refine (lay_ok (w1.heap.size + 1) w1.heap.size N N _ 4 s.fl _ _ HS.out.2.2 (by omega) (by omega) (by have := HLn.out; omega) (by omega) (by omega)).mono ?_
  rintro e v10 ⟨rfl, hL⟩
  obtain ⟨l10, el10⟩ : ∃ x, x = l9 ++ be 4 s.fl := ⟨_, rfl⟩
  have hS2 := HS.out.laid hng hs1 hL
  have hl2 : l10.length = 68 := by rw [el10, List.length_append, be_length, HLn.out]
  rw [← el10] at hS2
  clear HS HLn hL
  have HS := Lib.hid hS2
  have HLn := Lib.hid hl2
  have EL10 := Lib.hid el10
  clear hS2 hl2 el10
  have e0 := HS.out.2.2.1.cell 0
  simp only [List.getElem?_toArray, List.getElem?_cons_zero] at e0
  have a2 := HS.out.2.1.cell 2
  simp only [Sup.arr, List.getElem?_toArray, List.getElem?_cons_zero, List.getElem?_cons_succ, HN.out] at a2
  have hlf : l10 = fieldsL s := by rw [EL10.out, EL9.out, EL8.out, EL7.out, EL6.out, EL5.out, EL4.out, EL3.out, EL2.out, EL1.out, EL0.out]; simp only [fieldsL, HN.out]
  have hhl : (headL s).length = N - 32 := by rw [headL_length s g5, EN.out]
  have hrow := HS.out.2.2.2.1
  rw [hlf] at hrow
  have hrd : Rd .u8 v10.drew (.slice (some ⟨w1.heap.size, 0, none⟩) (N - 32) N) (headL s) := by
    have := (RowA.drewN hrow 1).rd (headL s) N (by omega) (by omega) (fun i hi => (headL_at s i).symm)
    rw [hhl] at this; exact this
  obtain ⟨z32, hz32, e32⟩ : ∃ zc : Array Value, (∀ w, (zeroValue 67).run Tryd.prog w = .ok (.agg zc) w) ∧ zc = (List.replicate 32 (Value.int .u8 0)).toArray :=
    ⟨(List.replicate 32 (Value.int .u8 0)).toArray, fun w => by kernel_rfl, rfl⟩
  obtain ⟨sa, esa⟩ : ∃ sa, sa = ((shaF K S (headL s)).map (Value.int .u8)).toArray := ⟨_, rfl⟩
  have k1 : (Tryd.prog.info? 67).map (·.size) = some sa.size := by rw [esa]; simp only [List.size_toArray, List.length_map, shaF_length]; exact sum_size
  have k2 : z32.size = sa.size := by rw [e32, esa]; simp [shaF_length]
  have k3 : sa.all (·.oneCell') = true := by rw [esa]; exact sh_one _ _
  have hst := fun w2 => run_storeAt_new (P := Tryd.prog) w2 67 z32 sa k1 k2 k3
  have hst2 := fun w2 => run_storeCells_new (P := Tryd.prog) w2 67 z32 sa k1 k2 k3
  have hsas : sa.size = 32 := by rw [esa]; simp [shaF_length]
  have hTv : Tab K S v10 := HT.out.belowS HS.out.1
  have hsA : Calls Tryd.prog 16 #[.slice (some ⟨w1.heap.size, 0, none⟩) (N - 32) N] v10.drew fun e w' => e = .returned (.agg sa) ∧ Below v10.heap.size v10 w' := by
    rw [esa]; exact (sum256_ok K S _ _ v10.drew (hTv.drewN 1) hrd).mono fun e w' ⟨h1, h2⟩ => ⟨h1, ⟨h2.os, h2.tape, h2.output, h2.size, h2.block⟩⟩
  have hsB : Calls Tryd.prog 16 #[.slice (some ⟨w1.heap.size, 0, none⟩) (N - 32) N] (v10.alloc (.cells z32 67)).drew fun e w' => e = .returned (.agg sa) ∧ Below (v10.heap.size + 1) (v10.alloc (.cells z32 67)) w' := by
    rw [esa]
    have := sum256_ok K S _ _ (v10.alloc (.cells z32 67)).drew ((hTv.alloc _).drewN 1) (by
      have := (RowA.drewN (hrow.alloc (.cells z32 67)) 1).rd (headL s) N (by omega) (by omega) (fun i hi => (headL_at s i).symm)
      rw [hhl] at this; exact this)
    refine this.mono fun e w' ⟨h1, h2⟩ => ⟨h1, ?_⟩
    have h3 : (v10.alloc (.cells z32 67)).drew.heap.size = v10.heap.size + 1 := by simp
    rw [h3] at h2
    exact ⟨h2.os, h2.tape, h2.output, h2.size, h2.block⟩
  have hz0 : Blk (v10.alloc (.cells z32 67)) v10.heap.size 67 z32 := Blk.newAt _ _ _ _ rfl
  have hg10 : w1.heap.size + 1 < v10.heap.size := HS.out.2.2.1.lt
  have hA10 : w.heap.size < v10.heap.size := HS.out.2.1.lt
  have n1 : IntKind.i64.wrap ((N : Int) - 32) = (N : Int) - 32 := IntWalk.i64_in _ (by omega)
  have n2 : (0 : Int) ≤ (N : Int) - 32 := by omega
  have n3 : ((N : Int) - 32).toNat = N - 32 := by omega
  have n4 : (N : Int) - 32 ≤ (N : Int) := by omega
  have n5 : N - 32 ≤ N := by omega
  have n8 : (32 : Int) ≤ (N : Int) := by omega
  have HSA := Lib.hid hsA
  have HSB := Lib.hid hsB
  have HZ0 := Lib.hid hz0
  have HROW := Lib.hid hrow
  have HHL := Lib.hid hhl
  have HLF := Lib.hid hlf
  have K1 := Lib.hid k1
  have K2 := Lib.hid k2
  have K3 := Lib.hid k3
  have Esa := Lib.hid esa
  clear hsA hsB hz0 hrow hhl hlf hrd k1 k2 k3 esa e32 hTv EL10 EL9 EL8 EL7 EL6 EL5 EL4 EL3 EL2 EL1 EL0
  go_upto_region 17 with fail
  go_cut [9] (fun t9 wx => CutR w1.heap.size sa v10 t9 wx)
  case first =>
    go_region_with (first
      | (go_at_call 16; with_reducible refine HSA.out.mono ?_; rintro e w2 ⟨rfl, hb2⟩; have HB2 := Lib.hid hb2; clear hb2)
      | (go_at_call 16; with_reducible refine HSB.out.mono ?_; rintro e w2 ⟨rfl, hb2⟩; have hstB := run_storeAt_row' (P := Tryd.prog) w2 v10.heap.size 67 z32 sa ((HZ0.out.below hb2 (Nat.lt_succ_self _)).out) K1.out K2.out K3.out; have hstC := run_storeCells_row' (P := Tryd.prog) w2 v10.heap.size 67 z32 sa ((HZ0.out.below hb2 (Nat.lt_succ_self _)).out) K1.out K2.out K3.out; have HB3 := Lib.hid hb2; clear hb2))
    all_goals go_wp2_with fail
    all_goals go_meet
    all_goals first
      | exact ⟨_, rfl, Blk.newAt _ _ _ _ rfl, (by have := HB2.out.size; omega), HB2.out.alloc HB2.out.size _⟩
      | exact ⟨_, rfl, Blk.setRow (HZ0.out.below HB3.out (Nat.lt_succ_self _)) _, hg10, below_setRow (((Below.refl _ _).alloc (Nat.le_refl _) _).trans (HB3.out.mono (Nat.le_succ _))) (Nat.le_refl _) _⟩
  case rest =>
  obtain ⟨D, rfl, hD, hDn, hb3⟩ := hcut
  obtain ⟨w3, rfl⟩ : ∃ w3, w3 = wc := ⟨_, rfl⟩
  clear hst hst2 hsas
  have n6 : ¬ (N = N - 32) := by omega
  have hcu : Blk w3 (w1.heap.size + 1) 64 #[.slice (some ⟨w1.heap.size, 0, none⟩) N N, .int .i64 l10.length] := HS.out.2.2.1.below hb3 HS.out.2.2.1.lt
  have hA3 : Blk w3 w.heap.size 27 s.arr := HS.out.2.1.below hb3 HS.out.2.1.lt
  have hrow3 := HROW.out.below hb3 HROW.out.lt
  have hbl3 : Below w.heap.size w w3 := HS.out.1.trans (hb3.mono HS.out.1.size)
  have hDne : D ≠ w1.heap.size := by omega
  obtain ⟨ll, ell⟩ : ∃ ll, ll = headL s ++ List.replicate 32 0 := ⟨_, rfl⟩
  have hllen : ll.length = N := by rw [ell, List.length_append, HHL.out, List.length_replicate]; omega
  have harr : Blk w3 w1.heap.size 5 (ll.map (Value.int .u8)).toArray := by
    refine RowA.arr ?_
    rw [hllen]
    refine hrow3.congr (fun j hj => ?_)
    rw [ell, ← headL_at, List.getD_eq_getElem?_getD, List.getD_eq_getElem?_getD, List.getElem?_append]
    by_cases h : j < (headL s).length
    · rw [if_pos h]
    · rw [if_neg h, List.getElem?_eq_none (by omega : (headL s).length ≤ j), List.getElem?_replicate]; split <;> rfl
  obtain ⟨cs, ecs⟩ : ∃ cs, cs = (shaF K S (headL s)).map (Value.int .u8) := ⟨_, rfl⟩
  have hclen : cs.length = 32 := by rw [ecs, List.length_map, shaF_length]
  have e0 := hcu.cell 0
  simp only [List.getElem?_toArray, List.getElem?_cons_zero] at e0
  have a2 := hA3.cell 2
  simp only [Sup.arr, List.getElem?_toArray, List.getElem?_cons_zero, List.getElem?_cons_succ, HN.out] at a2
  have q1 : cs.length = Nat.min 32 (N - (N - 32)) := by rw [hclen]; exact (Nat.min_eq_left (by omega)).symm
  have q2 : ∀ j v, cs[j]? = some v → w3.cell? ((⟨D, 0, none⟩ : Addr).add j) = some v := by
    intro j v hj
    rw [Addr.add_mid, Nat.zero_add, hD.cell, Esa.out, List.getElem?_toArray, ← ecs]; exact hj
  have q3 : N - 32 + cs.length ≤ (ll.map (Value.int .u8)).length := by rw [List.length_map, hllen, hclen]; omega
  have q4 : ∀ v ∈ cs, v.oneCell' = true := by rw [ecs]; intro v hv; obtain ⟨x, _, rfl⟩ := List.mem_map.1 hv; rfl
  have Q1 := Lib.hid q1
  have Q2 := Lib.hid q2
  have Q3 := Lib.hid q3
  have Q4 := Lib.hid q4
  clear q1 q2 q3 q4
  have HD := Lib.hid hD
  have HCu := Lib.hid hcu
  have HArr := Lib.hid harr
  have HBl3 := Lib.hid hbl3
  have Hllen := Lib.hid hllen
  have Ell := Lib.hid ell
  have Ecs := Lib.hid ecs
  have Hclen := Lib.hid hclen
  clear hD hb3 hcu hA3 hrow3 hbl3 ell hllen harr ecs hclen
  have hge : w1.heap.size + 1 ≠ w1.heap.size := by omega
  have heq : splice (ll.map (Value.int .u8)) (N - 32) cs = (sealL K S s).map (Value.int .u8) := by
    have h1 := HHL.out
    unfold splice
    rw [Ell.out, Ecs.out, List.map_append, List.take_append_of_le_length (by rw [List.length_map]; omega), List.take_of_length_le (by rw [List.length_map]; omega), List.drop_eq_nil_of_le (by simp [shaF_length]; omega), sealL, List.map_append, List.append_nil]
  have Heq := Lib.hid heq
  clear heq
  go_wp2_with fail
  go_region_law (refine step_copy_exact rfl (.tmp 92) (.tmp 93) 29 29 rfl 5 Tryd.underlying29 hd_size5 w1.heap.size (N - 32) ⟨D, 0, none⟩ _ _ _ _ (by rfl) (by rfl) (ll.map (Value.int .u8)) 5 HArr.out.out cs Q1.out Q2.out Q3.out Q4.out ?_)
  all_goals
    obtain ⟨w5, ew5⟩ : ∃ w5, w5 = w3.drew.setRow w1.heap.size (splice (ll.map (Value.int .u8)) (N - 32) cs).toArray := ⟨_, rfl⟩
    rw [← ew5]
    have e5 : w5.cell? ⟨w1.heap.size + 1, 0, none⟩ = some (.slice (some ⟨w1.heap.size, 0, none⟩) N N) := by
      rw [ew5, cell_setRow_other _ _ _ _ hge]; exact e0
    have hfin : SlQ K S s w (.returned (.tuple #[.slice (some ⟨w1.heap.size, 0, none⟩) N N, .int .i64 0])) w5 := by
      refine ⟨by rw [ew5]; exact below_setRow HBl3.out.drew (by omega) _, .inl ⟨HFit.out, w1.heap.size, by omega, by rw [← EN.out], ?_⟩⟩
      have hb5 : Blk w5 w1.heap.size 5 ((sealL K S s).map (Value.int .u8)).toArray := by
        rw [ew5, Heq.out]; exact Blk.setRow (Blk.drewN HArr.out 1) _
      have := RowA.list hb5
      rw [sealL_length K S s g5] at this
      exact this
    have HF := Lib.hid hfin
    clear hfin ew5 e0 a2
    go_wp2_with fail
    go_ret2
    exact HF.out
end Go.Proofs.YtgehbfnfhjpjbaaDoor
