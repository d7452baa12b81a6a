/- A superblock read back: Unseal, behind its letters. -/
import Derived.Test.YtgehbfnfhjpjbaaDoorSupH
namespace Go.Proofs.YtgehbfnfhjpjbaaDoor
open Go.RowKit
set_option linter.unusedVariables false
set_option linter.unusedSimpArgs false
set_option maxHeartbeats 4000000 in
set_option maxRecDepth 100000 in
theorem unseal_seal (K : Nat → Int) (S : St) (xs : List Int) (b off c : Nat) (w : World) (hT : Tab K S w) (hz : okSize xs.length) (hc : xs.length ≤ c) (hbl : b < w.heap.size) (hx : ∀ i, i < xs.length → w.cell? ⟨b, off + i, none⟩ = some (.int .u8 (xs.getD i 0))) (hb : Bytes xs) (hyes : xs.take 8 = lettersL) (hno : xs.drop (xs.length - 32) ≠ shaF K S (xs.take (xs.length - 32))) :
    Calls Tryd.prog 24 #[.slice (some ⟨b, off, none⟩) xs.length c] w (UnQ (sup0, 52) w) := by
  have hn : 128 ≤ xs.length ∧ xs.length ≤ 1024 := by unfold okSize at hz; omega
  obtain ⟨N, eN⟩ : ∃ N, N = xs.length := ⟨_, rfl⟩
  obtain ⟨W, eW⟩ : ∃ W, W = ((w.alloc (.cells sup0.arr 27)).alloc (.cells #[.int .i64 0] 32)) := ⟨_, rfl⟩
  have hWb : Below w.heap.size w W := by rw [eW]; exact ((Below.refl _ _).alloc (Nat.le_refl _) _).alloc (by simp) _
  have hxW : ∀ i, i < xs.length → W.cell? ⟨b, off + i, none⟩ = some (.int .u8 (xs.getD i 0)) := fun i hi => (hWb.cell (p := ⟨b, off + i, none⟩) hbl).trans (hx i hi)
  rw [← eN] at hn hz hc hno hxW ⊢
  obtain ⟨hn1, hn2⟩ := hn
  have h8 : (xs.take 8).length = 8 := by rw [List.length_take]; omega
  have hcv := run_convert_bytes_arg (P := Tryd.prog) W 29 5 Tryd.underlying29 Tryd.underlying5 b off 8 c (xs.take 8) h8 (fun i hi => by rw [hxW i (by omega), List.getD_eq_getElem?_getD, List.getD_eq_getElem?_getD, List.getElem?_take, if_pos hi]) 9 Tryd.underlying9
  have htst : ((strOfNums (xs.take 8)).toList == [82, 69, 80, 76, 73, 67, 65, 49]) = true := by rw [letters_test _ (hb.take 8), decide_eq_true hyes]
  obtain ⟨st, est⟩ : ∃ st, st = strOfNums (xs.take 8) := ⟨_, rfl⟩
  rw [← est] at hcv htst
  obtain ⟨cs, ecs⟩ : ∃ cs, cs = (xs.drop (N - 32)).map (Value.int .u8) := ⟨_, rfl⟩
  have hclen : cs.length = 32 := by rw [ecs, List.length_map, List.length_drop]; omega
  have hrng : W.drew.rangeAt b (off + (N - 32)) cs := fun j v hj => by
    have hjl : j < 32 := by have := (List.getElem?_eq_some_iff.1 hj).1; omega
    rw [World.cell?_drew, Nat.add_assoc, hxW (N - 32 + j) (by omega)]
    rw [ecs, List.getElem?_map, List.getElem?_drop] at hj
    rw [← hj, List.getD_eq_getElem?_getD, List.getElem?_eq_getElem (by omega)]; rfl
  rw [eW] at hcv
  simp only [sup0, Sup.arr] at hcv eW
  have hBW2 : Blk W w.heap.size 27 sup0.arr := by rw [eW]; exact (Blk.newAt _ _ _ _ rfl).alloc _
  have hBW3 : Blk W (w.heap.size + 1) 32 #[.int .i64 0] := by rw [eW]; exact Blk.newAt _ _ _ _ (by simp)
  have HB2 := Lib.hid hBW2
  have HB3 := Lib.hid hBW3
  clear hBW2 hBW3
  have EW := Lib.hid eW
  have Ecs := Lib.hid ecs
  have n1 : IntKind.i64.wrap ((N : Int) - 32) = (N : Int) - 32 := IntWalk.i64_in _ (by omega)
  have n2 : (0 : Int) ≤ (N : Int) - 32 := by omega
  have n3 : ((N : Int) - 32).toNat = N - 32 := by omega
  have n4 : (N : Int) - 32 ≤ (N : Int) := by omega
  have n5 : N - 32 ≤ N := by omega
  have n6 : ¬ (N = N - 32) := by omega
  have n8 : (32 : Int) ≤ (N : Int) := by omega
  have n9 : (N : Int) - 32 ≤ (c : Int) := by omega
  have n10 : N - 32 ≤ c := by omega
  have n11 : ¬ (c = N - 32) := by omega
  have HR := Lib.hid hrng
  have Hcl := Lib.hid hclen
  have EN := Lib.hid eN
  clear eN est eW ecs hrng hclen
  go_enter_defers Tryd.func24, Tryd.ntmps24
  go_wp2_with (go_at_call 25; refine (sized_yes _ _ hz).mono ?_; rintro e w' ⟨rfl, rfl⟩)
  rw [← EW.out]
  clear hcv htst
  have harr : ∀ w', (Instr.arrayAt 67 (.slice (some ⟨b, off + (N - 32), none⟩) (N - (N - 32)) (c - (N - 32)))).run Tryd.prog w' = .ok (.pointer (some ⟨b, off + (N - 32), none⟩)) w' := fun w' => by
    rw [show N - (N - 32) = 32 by omega]
    simp [Instr.arrayAt, run_underlying Tryd.underlying67]
  have hu44 := Tryd.underlying67
  have hi44 : (Tryd.prog.info? 67).map (·.size) = some cs.length := by rw [Hcl.out]; exact sum_size
  have hrd : Rd .u8 W.drew (.slice (some ⟨b, off, none⟩) (N - 32) c) (xs.take (N - 32)) := by
    have hl : (xs.take (N - 32)).length = N - 32 := by rw [List.length_take]; have := EN.out; omega
    refine .inr ⟨b, off, c, by rw [hl], by omega, by omega, by have := hWb.size; show b < W.heap.size; omega, fun i hi => ?_⟩
    rw [World.cell?_drew, hxW i (by omega), List.getD_eq_getElem?_getD, List.getD_eq_getElem?_getD, List.getElem?_take, if_pos (by omega)]
  have hsum := sum256_ok K S _ _ W.drew ((hT.belowS hWb).drewN 1) hrd
  have hdl : (xs.drop (N - 32)).length = 32 := by rw [List.length_drop]; have := EN.out; omega
  have hcsa : Value.agg cs.toArray = .agg ((xs.drop (N - 32)).map (Value.int .u8)).toArray := by rw [Ecs.out]
  have hbin : ∀ w', (Op.equalIn 10000 67 (.agg cs.toArray) (.agg ((shaF K S (xs.take (N - 32))).map (Value.int .u8)).toArray)).run Tryd.prog w' = .ok false w' := fun w' => by
    rw [hcsa, show (10000 : Nat) = 9998 + 2 from rfl, equal_arr w' 9998 67 5 _ _ 32 hdl (shaF_length _ _ _) Tryd.underlying67 Tryd.underlying5 hd_size5, decide_eq_false hno]
  have heg : Tryd.prog.eqGuardType Tryd.prog.depth 67 = false := by kernel_rfl
  unfold aggOf at hsum
  have HSUM := Lib.hid hsum
  obtain ⟨sa, esa⟩ : ∃ sa, sa = ((shaF K S (xs.take (N - 32))).map (Value.int .u8)).toArray := ⟨_, rfl⟩
  rw [← esa] at HSUM hbin
  have HBIN := Lib.hid (fun w' : World => (And.intro (run_eqGuard_agg w' .neq 67 (.tmp 25) (.tmp 29) cs.toArray sa heg) (show (binOp .neq 67 (.agg cs.toArray) (.agg sa)).run Tryd.prog w' = .ok (.bool true) w' by rw [run_neq_struct, hbin]; rfl)))
  clear hsum hrd esa hno hcsa hdl hbin
  -- REGION 6
  refine wp_region_noPanic ?_
  refine wp_region_any (by kernel_rfl) ?_
  change wpAny _ _ _ _ _ _ _ (World.drew _)
  refine wpAny_take (i := 0) (oi := ({ dst := some 21, op := Go.Op.move (Go.Operand.tmp 0), type := 29, pos := "super.go:111", after := #[], guard := none } : Go.Oper)) (v := (.slice (some ⟨b, off, none⟩) N c)) rfl (by kernel_rfl) (by kernel_rfl) (by kernel_rfl) (fun _ _ _ h => h) (Or.inl ⟨by rfl, ?hy0⟩) ?_
  case hy0 => (intro w; go_simp; first | done | with_reducible rfl)
  simp only [Act.put, List.setIfInBounds_toArray, List.set_cons_zero, List.set_cons_succ]
  refine wpAny_take (i := 1) (oi := ({ dst := some 22, op := Go.Op.move (Go.Operand.tmp 4), type := 3, pos := "super.go:111", after := #[], guard := none } : Go.Oper)) (v := (.int .i64 ((N : Int) - 32))) rfl (by kernel_rfl) (by kernel_rfl) (by kernel_rfl) (fun _ _ _ h => h) (Or.inl ⟨by rfl, ?hy1⟩) ?_
  case hy1 => (intro w; go_simp; first | done | with_reducible rfl)
  simp only [Act.put, List.setIfInBounds_toArray, List.set_cons_zero, List.set_cons_succ]
  refine wpAny_take (i := 2) (oi := ({ dst := some 23, op := Go.Op.slice 29 (Go.Operand.tmp 21) (some (Go.Operand.tmp 22)) none none, type := 29, pos := "super.go:111", after := #[{ on := 0, ground := Go.Ground.data }, { on := 1, ground := Go.Ground.data }], guard := none } : Go.Oper)) (v := (.slice (some ⟨b, off + (N - 32), none⟩) (N - (N - 32)) (c - (N - 32)))) rfl (by kernel_rfl) (by kernel_rfl) (by kernel_rfl) (fun _ _ _ h => h) (Or.inl ⟨by rfl, ?hy2⟩) ?_
  case hy2 => (intro w; go_simp; first | done | with_reducible rfl)
  simp only [Act.put, List.setIfInBounds_toArray, List.set_cons_zero, List.set_cons_succ]
  refine wpAny_take (i := 3) (oi := ({ dst := some 24, op := Go.Op.sliceToArrayPointer 67 (Go.Operand.tmp 23), type := 0, pos := "super.go:111", after := #[{ on := 2, ground := Go.Ground.data }], guard := none } : Go.Oper)) (v := (.pointer (some ⟨b, off + (N - 32), none⟩))) rfl (by kernel_rfl) (by kernel_rfl) (by kernel_rfl) (fun _ _ _ h => h) (Or.inl ⟨by rfl, ?hy3⟩) ?_
  case hy3 => (intro w; go_simp; first | done | with_reducible rfl)
  simp only [Act.put, List.setIfInBounds_toArray, List.set_cons_zero, List.set_cons_succ]
  refine wpAny_take (i := 5) (oi := ({ dst := some 26, op := Go.Op.move (Go.Operand.tmp 0), type := 29, pos := "super.go:111", after := #[], guard := none } : Go.Oper)) (v := (.slice (some ⟨b, off, none⟩) N c)) rfl (by kernel_rfl) (by kernel_rfl) (by kernel_rfl) (fun _ _ _ h => h) (Or.inl ⟨by rfl, ?hy5⟩) ?_
  case hy5 => (intro w; go_simp; first | done | with_reducible rfl)
  simp only [Act.put, List.setIfInBounds_toArray, List.set_cons_zero, List.set_cons_succ]
  refine wpAny_take (i := 6) (oi := ({ dst := some 27, op := Go.Op.move (Go.Operand.tmp 4), type := 3, pos := "super.go:111", after := #[], guard := none } : Go.Oper)) (v := (.int .i64 ((N : Int) - 32))) rfl (by kernel_rfl) (by kernel_rfl) (by kernel_rfl) (fun _ _ _ h => h) (Or.inl ⟨by rfl, ?hy6⟩) ?_
  case hy6 => (intro w; go_simp; first | done | with_reducible rfl)
  simp only [Act.put, List.setIfInBounds_toArray, List.set_cons_zero, List.set_cons_succ]
  refine wpAny_take (i := 7) (oi := ({ dst := some 28, op := Go.Op.slice 29 (Go.Operand.tmp 26) none (some (Go.Operand.tmp 27)) none, type := 29, pos := "super.go:111", after := #[{ on := 5, ground := Go.Ground.data }, { on := 6, ground := Go.Ground.data }], guard := none } : Go.Oper)) (v := (.slice (some ⟨b, off, none⟩) (N - 32) c)) rfl (by kernel_rfl) (by kernel_rfl) (by kernel_rfl) (fun _ _ _ h => h) (Or.inl ⟨by rfl, ?hy7⟩) ?_
  case hy7 => (intro w; go_simp; first | done | with_reducible rfl)
  simp only [Act.put, List.setIfInBounds_toArray, List.set_cons_zero, List.set_cons_succ]
  refine wpAny_ready (rs := [4, 8]) (by kernel_rfl) (by simp) ?_
  refine AllReady.cons (i := 4) (o := ({ dst := some 25, op := Go.Op.load 67 (Go.Operand.tmp 24), type := 67, pos := "super.go:111", after := #[{ on := 3, ground := Go.Ground.data }], guard := none } : Go.Oper)) rfl (fun K' hK' => ?_) (AllReady.cons (i := 8) (o := ({ dst := some 29, op := Go.Op.call { callee := Go.Callee.value (Go.Operand.func 16), args := #[Go.Operand.tmp 28], argTypes := #[29] }, type := 67, pos := "super.go:111", after := #[{ on := 7, ground := Go.Ground.data }], guard := none } : Go.Oper)) rfl (fun K' hK' => ?_) AllReady.nil)
  · refine step_load_mid rfl 67 (.tmp 24) rfl b (off + (N - 32)) rfl cs _ HR.out hu44 rfl hi44 ?_
    refine hK' _ _ ?_; clear hK' K'
    simp only [Act.put, List.setIfInBounds_toArray, List.set_cons_zero, List.set_cons_succ]
    refine wpAny_ready (rs := [8]) (by kernel_rfl) (by simp) ?_
    refine AllReady.cons (i := 8) (o := ({ dst := some 29, op := Go.Op.call { callee := Go.Callee.value (Go.Operand.func 16), args := #[Go.Operand.tmp 28], argTypes := #[29] }, type := 67, pos := "super.go:111", after := #[{ on := 7, ground := Go.Ground.data }], guard := none } : Go.Oper)) rfl (fun K' hK' => ?_) AllReady.nil
    refine step_call rfl _ (.func 16) rfl rfl 16 rfl Tryd.func16 (by kernel_rfl) (by kernel_rfl) (#[.slice (some ⟨b, off, none⟩) (N - 32) c]) (by simp [Act.eval]) (HSUM.out.mono ?_)
    rintro e w2 ⟨rfl, hb2⟩
    refine hK' _ _ ?_; clear hK' K'
    simp only [Act.put, List.setIfInBounds_toArray, List.set_cons_zero, List.set_cons_succ]
    refine wpAny_ready (rs := [9]) (by kernel_rfl) (by simp) ?_
    refine AllReady.cons (i := 9) (o := ({ dst := some 30, op := Go.Op.binOp Go.BinOp.neq 67 (Go.Operand.tmp 25) (Go.Operand.tmp 29) 67, type := 4, pos := "super.go:111", after := #[{ on := 4, ground := Go.Ground.data }, { on := 8, ground := Go.Ground.data }], guard := none } : Go.Oper)) rfl (fun K' hK' => ?_) AllReady.nil
    refine step_binop rfl .neq 67 (.tmp 25) (.tmp 29) _ rfl _ _ rfl rfl (HBIN.out w2) ?_
    refine hK' _ _ ?_; clear hK' K'
    simp only [Act.put, List.setIfInBounds_toArray, List.set_cons_zero, List.set_cons_succ]
    refine wpAny_done (by kernel_rfl) ?_ _
    refine NoPanic.normal ?_
    have hb2' : Below W.heap.size W w2 := ⟨hb2.os, hb2.tape, hb2.output, hb2.size, hb2.block⟩
    have hW2 : Below w.heap.size w w2 := hWb.trans (hb2'.mono hWb.size)
    have hB2 : Blk w2 w.heap.size 27 sup0.arr := HB2.out.below hb2' HB2.out.lt
    have hB3 : Blk w2 (w.heap.size + 1) 32 #[.int .i64 0] := HB3.out.below hb2' HB3.out.lt
    have d0 := hB2.cell 0
    have d1 := hB2.cell 1
    have d2 := hB2.cell 2
    have d3 := hB2.cell 3
    have d4 := hB2.cell 4
    have d5 := hB2.cell 5
    have d6 := hB2.cell 6
    have d7 := hB2.cell 7
    have d8 := hB2.cell 8
    have d9 := hB2.cell 9
    have e0 := hB3.cell 0
    have r0 := hB2.free 0
    have r1 := hB2.free 1
    have r2 := hB2.free 2
    have r3 := hB2.free 3
    have r4 := hB2.free 4
    have r5 := hB2.free 5
    have r6 := hB2.free 6
    have r7 := hB2.free 7
    have r8 := hB2.free 8
    have r9 := hB2.free 9
    have q0 := hB3.free 0
    simp only [sup0, Sup.arr, List.getElem?_toArray, List.getElem?_cons_zero, List.getElem?_cons_succ] at d0 d1 d2 d3 d4 d5 d6 d7 d8 d9 e0
    have HX2 := Lib.hid hB2
    have HX3 := Lib.hid hB3
    have HW2 := Lib.hid hW2
    clear hB2 hB3 hW2 hb2 hb2'
    go_wp2_with fail
    exact UnQ.of (r := (sup0, 52)) ((Only.set10 (bs := [w.heap.size, w.heap.size + 1]) (w := w2) (Only.refl _ _) (by simp) _ _ _ _ _ _ _ _ _ _).set (by simp) _ |> fun h => HW2.out.trans (h.below HW2.out.size (by simp))) rfl rfl ((HX2.out.set10 _ _ _ _ _ _ _ _ _ _).far (by simp) _) ((HX3.out.far10 (by simp) _ _ _ _ _ _ _ _ _ _).set 0 _)
  · refine step_call rfl _ (.func 16) rfl rfl 16 rfl Tryd.func16 (by kernel_rfl) (by kernel_rfl) (#[.slice (some ⟨b, off, none⟩) (N - 32) c]) (by simp [Act.eval]) (HSUM.out.mono ?_)
    rintro e w2 ⟨rfl, hb2⟩
    refine hK' _ _ ?_; clear hK' K'
    simp only [Act.put, List.setIfInBounds_toArray, List.set_cons_zero, List.set_cons_succ]
    refine wpAny_ready (rs := [4]) (by kernel_rfl) (by simp) ?_
    refine AllReady.cons (i := 4) (o := ({ dst := some 25, op := Go.Op.load 67 (Go.Operand.tmp 24), type := 67, pos := "super.go:111", after := #[{ on := 3, ground := Go.Ground.data }], guard := none } : Go.Oper)) rfl (fun K' hK' => ?_) AllReady.nil
    refine step_load_mid rfl 67 (.tmp 24) rfl b (off + (N - 32)) rfl cs _ (range_below hb2 HR.out) hu44 rfl hi44 ?_
    refine hK' _ _ ?_; clear hK' K'
    simp only [Act.put, List.setIfInBounds_toArray, List.set_cons_zero, List.set_cons_succ]
    refine wpAny_ready (rs := [9]) (by kernel_rfl) (by simp) ?_
    refine AllReady.cons (i := 9) (o := ({ dst := some 30, op := Go.Op.binOp Go.BinOp.neq 67 (Go.Operand.tmp 25) (Go.Operand.tmp 29) 67, type := 4, pos := "super.go:111", after := #[{ on := 4, ground := Go.Ground.data }, { on := 8, ground := Go.Ground.data }], guard := none } : Go.Oper)) rfl (fun K' hK' => ?_) AllReady.nil
    refine step_binop rfl .neq 67 (.tmp 25) (.tmp 29) _ rfl _ _ rfl rfl (HBIN.out w2) ?_
    refine hK' _ _ ?_; clear hK' K'
    simp only [Act.put, List.setIfInBounds_toArray, List.set_cons_zero, List.set_cons_succ]
    refine wpAny_done (by kernel_rfl) ?_ _
    refine NoPanic.normal ?_
    have hb2' : Below W.heap.size W w2 := ⟨hb2.os, hb2.tape, hb2.output, hb2.size, hb2.block⟩
    have hW2 : Below w.heap.size w w2 := hWb.trans (hb2'.mono hWb.size)
    have hB2 : Blk w2 w.heap.size 27 sup0.arr := HB2.out.below hb2' HB2.out.lt
    have hB3 : Blk w2 (w.heap.size + 1) 32 #[.int .i64 0] := HB3.out.below hb2' HB3.out.lt
    have d0 := hB2.cell 0
    have d1 := hB2.cell 1
    have d2 := hB2.cell 2
    have d3 := hB2.cell 3
    have d4 := hB2.cell 4
    have d5 := hB2.cell 5
    have d6 := hB2.cell 6
    have d7 := hB2.cell 7
    have d8 := hB2.cell 8
    have d9 := hB2.cell 9
    have e0 := hB3.cell 0
    have r0 := hB2.free 0
    have r1 := hB2.free 1
    have r2 := hB2.free 2
    have r3 := hB2.free 3
    have r4 := hB2.free 4
    have r5 := hB2.free 5
    have r6 := hB2.free 6
    have r7 := hB2.free 7
    have r8 := hB2.free 8
    have r9 := hB2.free 9
    have q0 := hB3.free 0
    simp only [sup0, Sup.arr, List.getElem?_toArray, List.getElem?_cons_zero, List.getElem?_cons_succ] at d0 d1 d2 d3 d4 d5 d6 d7 d8 d9 e0
    have HX2 := Lib.hid hB2
    have HX3 := Lib.hid hB3
    have HW2 := Lib.hid hW2
    clear hB2 hB3 hW2 hb2 hb2'
    go_wp2_with fail
    exact UnQ.of (r := (sup0, 52)) ((Only.set10 (bs := [w.heap.size, w.heap.size + 1]) (w := w2) (Only.refl _ _) (by simp) _ _ _ _ _ _ _ _ _ _).set (by simp) _ |> fun h => HW2.out.trans (h.below HW2.out.size (by simp))) rfl rfl ((HX2.out.set10 _ _ _ _ _ _ _ _ _ _).far (by simp) _) ((HX3.out.far10 (by simp) _ _ _ _ _ _ _ _ _ _).set 0 _)
theorem leaves_up {P : Program} {fn : Func} {tmps : Array Value} {R R' : Ending → World → Prop} {w : World} (hR : ∀ e w, R e w → R' e w) (h : Leaves P fn tmps R [] .returning w) : Leaves P fn tmps R' [] .returning w := let ⟨v, h1, h2⟩ := h; ⟨v, h1, hR _ _ h2⟩
/-- What Unseal answers of a block with its letters and its seal. -/
def UnG (xs : List Int) (w : World) (e : Ending) (w' : World) : Prop := (Good xs ∧ UnQ (supOf xs, 0) w e w') ∨ (¬ Good xs ∧ UnQ (sup0, 53) w e w')
set_option maxHeartbeats 4000000 in
set_option maxRecDepth 100000 in
theorem unseal_good (K : Nat → Int) (S : St) (xs : List Int) (b off c : Nat) (w : World) (hT : Tab K S w) (hz : okSize xs.length) (hc : xs.length ≤ c) (hbl : b < w.heap.size) (hx : ∀ i, i < xs.length → w.cell? ⟨b, off + i, none⟩ = some (.int .u8 (xs.getD i 0))) (hb : Bytes xs) (hyes : xs.take 8 = lettersL) (hno : xs.drop (xs.length - 32) = shaF K S (xs.take (xs.length - 32))) :
    Calls Tryd.prog 24 #[.slice (some ⟨b, off, none⟩) xs.length c] w (UnG xs w) := by
  have hn : 128 ≤ xs.length ∧ xs.length ≤ 1024 := by unfold okSize at hz; omega
  obtain ⟨N, eN⟩ : ∃ N, N = xs.length := ⟨_, rfl⟩
  obtain ⟨W, eW⟩ : ∃ W, W = ((w.alloc (.cells sup0.arr 27)).alloc (.cells #[.int .i64 0] 32)) := ⟨_, rfl⟩
  have hWb : Below w.heap.size w W := by rw [eW]; exact ((Below.refl _ _).alloc (Nat.le_refl _) _).alloc (by simp) _
  have hxW : ∀ i, i < xs.length → W.cell? ⟨b, off + i, none⟩ = some (.int .u8 (xs.getD i 0)) := fun i hi => (hWb.cell (p := ⟨b, off + i, none⟩) hbl).trans (hx i hi)
  rw [← eN] at hn hz hc hno hxW ⊢
  obtain ⟨hn1, hn2⟩ := hn
  have h8 : (xs.take 8).length = 8 := by rw [List.length_take]; omega
  have hcv := run_convert_bytes_arg (P := Tryd.prog) W 29 5 Tryd.underlying29 Tryd.underlying5 b off 8 c (xs.take 8) h8 (fun i hi => by rw [hxW i (by omega), List.getD_eq_getElem?_getD, List.getD_eq_getElem?_getD, List.getElem?_take, if_pos hi]) 9 Tryd.underlying9
  have htst : ((strOfNums (xs.take 8)).toList == [82, 69, 80, 76, 73, 67, 65, 49]) = true := by rw [letters_test _ (hb.take 8), decide_eq_true hyes]
  obtain ⟨st, est⟩ : ∃ st, st = strOfNums (xs.take 8) := ⟨_, rfl⟩
  rw [← est] at hcv htst
  obtain ⟨cs, ecs⟩ : ∃ cs, cs = (xs.drop (N - 32)).map (Value.int .u8) := ⟨_, rfl⟩
  have hclen : cs.length = 32 := by rw [ecs, List.length_map, List.length_drop]; omega
  have hrng : W.drew.rangeAt b (off + (N - 32)) cs := fun j v hj => by
    have hjl : j < 32 := by have := (List.getElem?_eq_some_iff.1 hj).1; omega
    rw [World.cell?_drew, Nat.add_assoc, hxW (N - 32 + j) (by omega)]
    rw [ecs, List.getElem?_map, List.getElem?_drop] at hj
    rw [← hj, List.getD_eq_getElem?_getD, List.getElem?_eq_getElem (by omega)]; rfl
  rw [eW] at hcv
  simp only [sup0, Sup.arr] at hcv eW
  have hBW2 : Blk W w.heap.size 27 sup0.arr := by rw [eW]; exact (Blk.newAt _ _ _ _ rfl).alloc _
  have hBW3 : Blk W (w.heap.size + 1) 32 #[.int .i64 0] := by rw [eW]; exact Blk.newAt _ _ _ _ (by simp)
  have HB2 := Lib.hid hBW2
  have HB3 := Lib.hid hBW3
  clear hBW2 hBW3
  have EW := Lib.hid eW
  have Ecs := Lib.hid ecs
  have n1 : IntKind.i64.wrap ((N : Int) - 32) = (N : Int) - 32 := IntWalk.i64_in _ (by omega)
  have n2 : (0 : Int) ≤ (N : Int) - 32 := by omega
  have n3 : ((N : Int) - 32).toNat = N - 32 := by omega
  have n4 : (N : Int) - 32 ≤ (N : Int) := by omega
  have n5 : N - 32 ≤ N := by omega
  have n6 : ¬ (N = N - 32) := by omega
  have n8 : (32 : Int) ≤ (N : Int) := by omega
  have n9 : (N : Int) - 32 ≤ (c : Int) := by omega
  have n10 : N - 32 ≤ c := by omega
  have n11 : ¬ (c = N - 32) := by omega
  have HR := Lib.hid hrng
  have Hcl := Lib.hid hclen
  have EN := Lib.hid eN
  clear eN est eW ecs hrng hclen
  go_enter_defers Tryd.func24, Tryd.ntmps24
  go_wp2_with (go_at_call 25; refine (sized_yes _ _ hz).mono ?_; rintro e w' ⟨rfl, rfl⟩)
  rw [← EW.out]
  clear hcv htst
  have harr : ∀ w', (Instr.arrayAt 67 (.slice (some ⟨b, off + (N - 32), none⟩) (N - (N - 32)) (c - (N - 32)))).run Tryd.prog w' = .ok (.pointer (some ⟨b, off + (N - 32), none⟩)) w' := fun w' => by
    rw [show N - (N - 32) = 32 by omega]
    simp [Instr.arrayAt, run_underlying Tryd.underlying67]
  have hu44 := Tryd.underlying67
  have hi44 : (Tryd.prog.info? 67).map (·.size) = some cs.length := by rw [Hcl.out]; exact sum_size
  have hrd : Rd .u8 W.drew (.slice (some ⟨b, off, none⟩) (N - 32) c) (xs.take (N - 32)) := by
    have hl : (xs.take (N - 32)).length = N - 32 := by rw [List.length_take]; have := EN.out; omega
    refine .inr ⟨b, off, c, by rw [hl], by omega, by omega, by have := hWb.size; show b < W.heap.size; omega, fun i hi => ?_⟩
    rw [World.cell?_drew, hxW i (by omega), List.getD_eq_getElem?_getD, List.getD_eq_getElem?_getD, List.getElem?_take, if_pos (by omega)]
  have hsum := sum256_ok K S _ _ W.drew ((hT.belowS hWb).drewN 1) hrd
  have hdl : (xs.drop (N - 32)).length = 32 := by rw [List.length_drop]; have := EN.out; omega
  have hcsa : Value.agg cs.toArray = .agg ((xs.drop (N - 32)).map (Value.int .u8)).toArray := by rw [Ecs.out]
  have hbin : ∀ w', (Op.equalIn 10000 67 (.agg cs.toArray) (.agg ((shaF K S (xs.take (N - 32))).map (Value.int .u8)).toArray)).run Tryd.prog w' = .ok true w' := fun w' => by
    rw [hcsa, show (10000 : Nat) = 9998 + 2 from rfl, equal_arr w' 9998 67 5 _ _ 32 hdl (shaF_length _ _ _) Tryd.underlying67 Tryd.underlying5 hd_size5, decide_eq_true hno]
  have heg : Tryd.prog.eqGuardType Tryd.prog.depth 67 = false := by kernel_rfl
  unfold aggOf at hsum
  have HSUM := Lib.hid hsum
  obtain ⟨sa, esa⟩ : ∃ sa, sa = ((shaF K S (xs.take (N - 32))).map (Value.int .u8)).toArray := ⟨_, rfl⟩
  rw [← esa] at HSUM hbin
  have HBIN := Lib.hid (fun w' : World => (And.intro (run_eqGuard_agg w' .neq 67 (.tmp 25) (.tmp 29) cs.toArray sa heg) (show (binOp .neq 67 (.agg cs.toArray) (.agg sa)).run Tryd.prog w' = .ok (.bool false) w' by rw [run_neq_struct, hbin]; rfl)))
  clear hsum hrd esa hno hcsa hdl hbin
  -- REGION 6
  refine wp_region_noPanic ?_
  refine wp_region_any (by kernel_rfl) ?_
  change wpAny _ _ _ _ _ _ _ (World.drew _)
  refine wpAny_take (i := 0) (oi := ({ dst := some 21, op := Go.Op.move (Go.Operand.tmp 0), type := 29, pos := "super.go:111", after := #[], guard := none } : Go.Oper)) (v := (.slice (some ⟨b, off, none⟩) N c)) rfl (by kernel_rfl) (by kernel_rfl) (by kernel_rfl) (fun _ _ _ h => h) (Or.inl ⟨by rfl, ?hy0⟩) ?_
  case hy0 => (intro w; go_simp; first | done | with_reducible rfl)
  simp only [Act.put, List.setIfInBounds_toArray, List.set_cons_zero, List.set_cons_succ]
  refine wpAny_take (i := 1) (oi := ({ dst := some 22, op := Go.Op.move (Go.Operand.tmp 4), type := 3, pos := "super.go:111", after := #[], guard := none } : Go.Oper)) (v := (.int .i64 ((N : Int) - 32))) rfl (by kernel_rfl) (by kernel_rfl) (by kernel_rfl) (fun _ _ _ h => h) (Or.inl ⟨by rfl, ?hy1⟩) ?_
  case hy1 => (intro w; go_simp; first | done | with_reducible rfl)
  simp only [Act.put, List.setIfInBounds_toArray, List.set_cons_zero, List.set_cons_succ]
  refine wpAny_take (i := 2) (oi := ({ dst := some 23, op := Go.Op.slice 29 (Go.Operand.tmp 21) (some (Go.Operand.tmp 22)) none none, type := 29, pos := "super.go:111", after := #[{ on := 0, ground := Go.Ground.data }, { on := 1, ground := Go.Ground.data }], guard := none } : Go.Oper)) (v := (.slice (some ⟨b, off + (N - 32), none⟩) (N - (N - 32)) (c - (N - 32)))) rfl (by kernel_rfl) (by kernel_rfl) (by kernel_rfl) (fun _ _ _ h => h) (Or.inl ⟨by rfl, ?hy2⟩) ?_
  case hy2 => (intro w; go_simp; first | done | with_reducible rfl)
  simp only [Act.put, List.setIfInBounds_toArray, List.set_cons_zero, List.set_cons_succ]
  refine wpAny_take (i := 3) (oi := ({ dst := some 24, op := Go.Op.sliceToArrayPointer 67 (Go.Operand.tmp 23), type := 0, pos := "super.go:111", after := #[{ on := 2, ground := Go.Ground.data }], guard := none } : Go.Oper)) (v := (.pointer (some ⟨b, off + (N - 32), none⟩))) rfl (by kernel_rfl) (by kernel_rfl) (by kernel_rfl) (fun _ _ _ h => h) (Or.inl ⟨by rfl, ?hy3⟩) ?_
  case hy3 => (intro w; go_simp; first | done | with_reducible rfl)
  simp only [Act.put, List.setIfInBounds_toArray, List.set_cons_zero, List.set_cons_succ]
  refine wpAny_take (i := 5) (oi := ({ dst := some 26, op := Go.Op.move (Go.Operand.tmp 0), type := 29, pos := "super.go:111", after := #[], guard := none } : Go.Oper)) (v := (.slice (some ⟨b, off, none⟩) N c)) rfl (by kernel_rfl) (by kernel_rfl) (by kernel_rfl) (fun _ _ _ h => h) (Or.inl ⟨by rfl, ?hy5⟩) ?_
  case hy5 => (intro w; go_simp; first | done | with_reducible rfl)
  simp only [Act.put, List.setIfInBounds_toArray, List.set_cons_zero, List.set_cons_succ]
  refine wpAny_take (i := 6) (oi := ({ dst := some 27, op := Go.Op.move (Go.Operand.tmp 4), type := 3, pos := "super.go:111", after := #[], guard := none } : Go.Oper)) (v := (.int .i64 ((N : Int) - 32))) rfl (by kernel_rfl) (by kernel_rfl) (by kernel_rfl) (fun _ _ _ h => h) (Or.inl ⟨by rfl, ?hy6⟩) ?_
  case hy6 => (intro w; go_simp; first | done | with_reducible rfl)
  simp only [Act.put, List.setIfInBounds_toArray, List.set_cons_zero, List.set_cons_succ]
  refine wpAny_take (i := 7) (oi := ({ dst := some 28, op := Go.Op.slice 29 (Go.Operand.tmp 26) none (some (Go.Operand.tmp 27)) none, type := 29, pos := "super.go:111", after := #[{ on := 5, ground := Go.Ground.data }, { on := 6, ground := Go.Ground.data }], guard := none } : Go.Oper)) (v := (.slice (some ⟨b, off, none⟩) (N - 32) c)) rfl (by kernel_rfl) (by kernel_rfl) (by kernel_rfl) (fun _ _ _ h => h) (Or.inl ⟨by rfl, ?hy7⟩) ?_
  case hy7 => (intro w; go_simp; first | done | with_reducible rfl)
  simp only [Act.put, List.setIfInBounds_toArray, List.set_cons_zero, List.set_cons_succ]
  refine wpAny_ready (rs := [4, 8]) (by kernel_rfl) (by simp) ?_
  refine AllReady.cons (i := 4) (o := ({ dst := some 25, op := Go.Op.load 67 (Go.Operand.tmp 24), type := 67, pos := "super.go:111", after := #[{ on := 3, ground := Go.Ground.data }], guard := none } : Go.Oper)) rfl (fun K' hK' => ?_) (AllReady.cons (i := 8) (o := ({ dst := some 29, op := Go.Op.call { callee := Go.Callee.value (Go.Operand.func 16), args := #[Go.Operand.tmp 28], argTypes := #[29] }, type := 67, pos := "super.go:111", after := #[{ on := 7, ground := Go.Ground.data }], guard := none } : Go.Oper)) rfl (fun K' hK' => ?_) AllReady.nil)
  · refine step_load_mid rfl 67 (.tmp 24) rfl b (off + (N - 32)) rfl cs _ HR.out hu44 rfl hi44 ?_
    refine hK' _ _ ?_; clear hK' K'
    simp only [Act.put, List.setIfInBounds_toArray, List.set_cons_zero, List.set_cons_succ]
    refine wpAny_ready (rs := [8]) (by kernel_rfl) (by simp) ?_
    refine AllReady.cons (i := 8) (o := ({ dst := some 29, op := Go.Op.call { callee := Go.Callee.value (Go.Operand.func 16), args := #[Go.Operand.tmp 28], argTypes := #[29] }, type := 67, pos := "super.go:111", after := #[{ on := 7, ground := Go.Ground.data }], guard := none } : Go.Oper)) rfl (fun K' hK' => ?_) AllReady.nil
    refine step_call rfl _ (.func 16) rfl rfl 16 rfl Tryd.func16 (by kernel_rfl) (by kernel_rfl) (#[.slice (some ⟨b, off, none⟩) (N - 32) c]) (by simp [Act.eval]) (HSUM.out.mono ?_)
    rintro e w2 ⟨rfl, hb2⟩
    refine hK' _ _ ?_; clear hK' K'
    simp only [Act.put, List.setIfInBounds_toArray, List.set_cons_zero, List.set_cons_succ]
    refine wpAny_ready (rs := [9]) (by kernel_rfl) (by simp) ?_
    refine AllReady.cons (i := 9) (o := ({ dst := some 30, op := Go.Op.binOp Go.BinOp.neq 67 (Go.Operand.tmp 25) (Go.Operand.tmp 29) 67, type := 4, pos := "super.go:111", after := #[{ on := 4, ground := Go.Ground.data }, { on := 8, ground := Go.Ground.data }], guard := none } : Go.Oper)) rfl (fun K' hK' => ?_) AllReady.nil
    refine step_binop rfl .neq 67 (.tmp 25) (.tmp 29) _ rfl _ _ rfl rfl (HBIN.out w2) ?_
    refine hK' _ _ ?_; clear hK' K'
    simp only [Act.put, List.setIfInBounds_toArray, List.set_cons_zero, List.set_cons_succ]
    refine wpAny_done (by kernel_rfl) ?_ _
    refine NoPanic.normal ?_
    have hb2' : Below W.heap.size W w2 := ⟨hb2.os, hb2.tape, hb2.output, hb2.size, hb2.block⟩
    have hW2 : Below w.heap.size w w2 := hWb.trans (hb2'.mono hWb.size)
    have hB2 : Blk w2 w.heap.size 27 sup0.arr := HB2.out.below hb2' HB2.out.lt
    have hB3 : Blk w2 (w.heap.size + 1) 32 #[.int .i64 0] := HB3.out.below hb2' HB3.out.lt
    have hmf : ∀ (fn : Fn) (first cap : Array Value) (w : World), (Instr.makeFunc fn first cap).run Tryd.prog w = .ok (.func fn first cap) w := fun _ _ _ _ => rfl
    obtain ⟨w3, ew3⟩ : ∃ w3, w3 = w2.alloc (.cells #[.slice (some ⟨b, off, none⟩) N c, .int .i64 8] 93) := ⟨_, rfl⟩
    have hb3 : Below w2.heap.size w2 w3 := by rw [ew3]; exact (Below.refl _ _).alloc (Nat.le_refl _) _
    have hrc : RdC 93 w3 w2.heap.size b off c 8 xs := by
      rw [ew3]
      refine ⟨by rw [← EN.out]; exact Blk.newAt _ _ _ _ rfl, by have := hW2.size; omega, by rw [← EN.out]; exact hc, by have := hW2.size; simp; omega, fun i hi => ?_⟩
      rw [← hx i hi]
      exact cell_of_heap ((Below.heap_alloc _ _ _ (by have := hW2.size; omega)).trans (hW2.block b hbl)) _
    have hsup := super_ok w2.heap.size b off c xs w3 hrc hb (by rw [← EN.out]; exact hz)
    have hB2 := hB2.below hb3 hB2.lt
    have hB3 := hB3.below hb3 hB3.lt
    have hW3 : Below w.heap.size w w3 := hW2.trans (hb3.mono hW2.size)
    have HX2 := Lib.hid hB2
    have HX3 := Lib.hid hB3
    have HW3 := Lib.hid hW3
    have HSup := Lib.hid hsup
    have hl2 : w.heap.size + 1 < w2.heap.size := by have := hb2'.size; have := HB3.out.lt; omega
    have Ew3 := Lib.hid ew3
    clear hB2 hB3 hW2 hb2 hb2' hrc hsup hb3 hW3 ew3
    go_wp2_with fail
    rw [← Ew3.out]
    refine HSup.out.mono ?_
    rintro e w4 hq
    rcases hq with ⟨hG, rfl, ho⟩ | ⟨hG, rfl, ho⟩
    · have hB2 := ho.blk HX2.out (by simp; omega)
      have hB3 := ho.blk HX3.out (by simp; omega)
      have d0 := hB2.cell 0
      have d1 := hB2.cell 1
      have d2 := hB2.cell 2
      have d3 := hB2.cell 3
      have d4 := hB2.cell 4
      have d5 := hB2.cell 5
      have d6 := hB2.cell 6
      have d7 := hB2.cell 7
      have d8 := hB2.cell 8
      have d9 := hB2.cell 9
      have e0 := hB3.cell 0
      have r0 := hB2.free 0
      have r1 := hB2.free 1
      have r2 := hB2.free 2
      have r3 := hB2.free 3
      have r4 := hB2.free 4
      have r5 := hB2.free 5
      have r6 := hB2.free 6
      have r7 := hB2.free 7
      have r8 := hB2.free 8
      have r9 := hB2.free 9
      have q0 := hB3.free 0
      simp only [sup0, Sup.arr, List.getElem?_toArray, List.getElem?_cons_zero, List.getElem?_cons_succ] at d0 d1 d2 d3 d4 d5 d6 d7 d8 d9 e0
      have HY2 := Lib.hid hB2
      have HY3 := Lib.hid hB3
      have HO := Lib.hid ho
      have HG := Lib.hid hG
      clear hB2 hB3 ho hG
      rw [Sup.arr]
      go_wp2_with fail
      refine leaves_cons (f := 29) (args := #[.pointer (some ⟨w.heap.size, 0, none⟩), .pointer (some ⟨w.heap.size + 1, 0, none⟩)]) (by simp) (by simp [go_sem]) ?_
      refine (catch_idle _ _ _).mono ?_
      rintro e u' w'' ⟨rfl, rfl, rfl⟩
      exact leaves_up (fun _ _ h => .inl ⟨HG.out, h⟩) <| UnQ.of (r := (supOf xs, 0)) ((Only.set10 (bs := [w.heap.size, w.heap.size + 1]) (w := w4) (Only.refl _ _) (by simp) _ _ _ _ _ _ _ _ _ _).set (by simp) _ |> fun h => (HW3.out.trans (HO.out.below HW3.out.size (by simp; omega))).trans (h.below (by have := HO.out.size; have := HW3.out.size; omega) (by simp))) rfl rfl ((HY2.out.set10 _ _ _ _ _ _ _ _ _ _).far (by simp) _) ((HY3.out.far10 (by simp) _ _ _ _ _ _ _ _ _ _).set 0 _)
    · have hB2 := ho.blk HX2.out (by simp; omega)
      have hB3 := ho.blk HX3.out (by simp; omega)
      have HY2 := Lib.hid hB2
      have HY3 := Lib.hid hB3
      have HO := Lib.hid ho
      have HG := Lib.hid hG
      clear hB2 hB3 ho hG
      go_wp2_with fail
      refine leaves_cons (f := 29) (args := #[.pointer (some ⟨w.heap.size, 0, none⟩), .pointer (some ⟨w.heap.size + 1, 0, none⟩)]) (by simp) (by simp [go_sem]) ?_
      refine (catch_panicking w.heap.size (w.heap.size + 1) sup0 0 _ _ [] _ (by omega) HY2.out HY3.out).mono ?_
      rintro e u' w'' ⟨rfl, rfl, k2, k3, ko⟩
      exact leaves_up (fun _ _ h => .inr ⟨HG.out, h⟩) <| UnQ.of (r := (sup0, 53)) ((HW3.out.trans (HO.out.below HW3.out.size (by simp; omega))).trans (ko.below (by have := HO.out.size; have := HW3.out.size; omega) (by simp))) rfl rfl k2 k3
  · refine step_call rfl _ (.func 16) rfl rfl 16 rfl Tryd.func16 (by kernel_rfl) (by kernel_rfl) (#[.slice (some ⟨b, off, none⟩) (N - 32) c]) (by simp [Act.eval]) (HSUM.out.mono ?_)
    rintro e w2 ⟨rfl, hb2⟩
    refine hK' _ _ ?_; clear hK' K'
    simp only [Act.put, List.setIfInBounds_toArray, List.set_cons_zero, List.set_cons_succ]
    refine wpAny_ready (rs := [4]) (by kernel_rfl) (by simp) ?_
    refine AllReady.cons (i := 4) (o := ({ dst := some 25, op := Go.Op.load 67 (Go.Operand.tmp 24), type := 67, pos := "super.go:111", after := #[{ on := 3, ground := Go.Ground.data }], guard := none } : Go.Oper)) rfl (fun K' hK' => ?_) AllReady.nil
    refine step_load_mid rfl 67 (.tmp 24) rfl b (off + (N - 32)) rfl cs _ (range_below hb2 HR.out) hu44 rfl hi44 ?_
    refine hK' _ _ ?_; clear hK' K'
    simp only [Act.put, List.setIfInBounds_toArray, List.set_cons_zero, List.set_cons_succ]
    refine wpAny_ready (rs := [9]) (by kernel_rfl) (by simp) ?_
    refine AllReady.cons (i := 9) (o := ({ dst := some 30, op := Go.Op.binOp Go.BinOp.neq 67 (Go.Operand.tmp 25) (Go.Operand.tmp 29) 67, type := 4, pos := "super.go:111", after := #[{ on := 4, ground := Go.Ground.data }, { on := 8, ground := Go.Ground.data }], guard := none } : Go.Oper)) rfl (fun K' hK' => ?_) AllReady.nil
    refine step_binop rfl .neq 67 (.tmp 25) (.tmp 29) _ rfl _ _ rfl rfl (HBIN.out w2) ?_
    refine hK' _ _ ?_; clear hK' K'
    simp only [Act.put, List.setIfInBounds_toArray, List.set_cons_zero, List.set_cons_succ]
    refine wpAny_done (by kernel_rfl) ?_ _
    refine NoPanic.normal ?_
    have hb2' : Below W.heap.size W w2 := ⟨hb2.os, hb2.tape, hb2.output, hb2.size, hb2.block⟩
    have hW2 : Below w.heap.size w w2 := hWb.trans (hb2'.mono hWb.size)
    have hB2 : Blk w2 w.heap.size 27 sup0.arr := HB2.out.below hb2' HB2.out.lt
    have hB3 : Blk w2 (w.heap.size + 1) 32 #[.int .i64 0] := HB3.out.below hb2' HB3.out.lt
    have hmf : ∀ (fn : Fn) (first cap : Array Value) (w : World), (Instr.makeFunc fn first cap).run Tryd.prog w = .ok (.func fn first cap) w := fun _ _ _ _ => rfl
    obtain ⟨w3, ew3⟩ : ∃ w3, w3 = w2.alloc (.cells #[.slice (some ⟨b, off, none⟩) N c, .int .i64 8] 93) := ⟨_, rfl⟩
    have hb3 : Below w2.heap.size w2 w3 := by rw [ew3]; exact (Below.refl _ _).alloc (Nat.le_refl _) _
    have hrc : RdC 93 w3 w2.heap.size b off c 8 xs := by
      rw [ew3]
      refine ⟨by rw [← EN.out]; exact Blk.newAt _ _ _ _ rfl, by have := hW2.size; omega, by rw [← EN.out]; exact hc, by have := hW2.size; simp; omega, fun i hi => ?_⟩
      rw [← hx i hi]
      exact cell_of_heap ((Below.heap_alloc _ _ _ (by have := hW2.size; omega)).trans (hW2.block b hbl)) _
    have hsup := super_ok w2.heap.size b off c xs w3 hrc hb (by rw [← EN.out]; exact hz)
    have hB2 := hB2.below hb3 hB2.lt
    have hB3 := hB3.below hb3 hB3.lt
    have hW3 : Below w.heap.size w w3 := hW2.trans (hb3.mono hW2.size)
    have HX2 := Lib.hid hB2
    have HX3 := Lib.hid hB3
    have HW3 := Lib.hid hW3
    have HSup := Lib.hid hsup
    have hl2 : w.heap.size + 1 < w2.heap.size := by have := hb2'.size; have := HB3.out.lt; omega
    have Ew3 := Lib.hid ew3
    clear hB2 hB3 hW2 hb2 hb2' hrc hsup hb3 hW3 ew3
    go_wp2_with fail
    rw [← Ew3.out]
    refine HSup.out.mono ?_
    rintro e w4 hq
    rcases hq with ⟨hG, rfl, ho⟩ | ⟨hG, rfl, ho⟩
    · have hB2 := ho.blk HX2.out (by simp; omega)
      have hB3 := ho.blk HX3.out (by simp; omega)
      have d0 := hB2.cell 0
      have d1 := hB2.cell 1
      have d2 := hB2.cell 2
      have d3 := hB2.cell 3
      have d4 := hB2.cell 4
      have d5 := hB2.cell 5
      have d6 := hB2.cell 6
      have d7 := hB2.cell 7
      have d8 := hB2.cell 8
      have d9 := hB2.cell 9
      have e0 := hB3.cell 0
      have r0 := hB2.free 0
      have r1 := hB2.free 1
      have r2 := hB2.free 2
      have r3 := hB2.free 3
      have r4 := hB2.free 4
      have r5 := hB2.free 5
      have r6 := hB2.free 6
      have r7 := hB2.free 7
      have r8 := hB2.free 8
      have r9 := hB2.free 9
      have q0 := hB3.free 0
      simp only [sup0, Sup.arr, List.getElem?_toArray, List.getElem?_cons_zero, List.getElem?_cons_succ] at d0 d1 d2 d3 d4 d5 d6 d7 d8 d9 e0
      have HY2 := Lib.hid hB2
      have HY3 := Lib.hid hB3
      have HO := Lib.hid ho
      have HG := Lib.hid hG
      clear hB2 hB3 ho hG
      rw [Sup.arr]
      go_wp2_with fail
      refine leaves_cons (f := 29) (args := #[.pointer (some ⟨w.heap.size, 0, none⟩), .pointer (some ⟨w.heap.size + 1, 0, none⟩)]) (by simp) (by simp [go_sem]) ?_
      refine (catch_idle _ _ _).mono ?_
      rintro e u' w'' ⟨rfl, rfl, rfl⟩
      exact leaves_up (fun _ _ h => .inl ⟨HG.out, h⟩) <| UnQ.of (r := (supOf xs, 0)) ((Only.set10 (bs := [w.heap.size, w.heap.size + 1]) (w := w4) (Only.refl _ _) (by simp) _ _ _ _ _ _ _ _ _ _).set (by simp) _ |> fun h => (HW3.out.trans (HO.out.below HW3.out.size (by simp; omega))).trans (h.below (by have := HO.out.size; have := HW3.out.size; omega) (by simp))) rfl rfl ((HY2.out.set10 _ _ _ _ _ _ _ _ _ _).far (by simp) _) ((HY3.out.far10 (by simp) _ _ _ _ _ _ _ _ _ _).set 0 _)
    · have hB2 := ho.blk HX2.out (by simp; omega)
      have hB3 := ho.blk HX3.out (by simp; omega)
      have HY2 := Lib.hid hB2
      have HY3 := Lib.hid hB3
      have HO := Lib.hid ho
      have HG := Lib.hid hG
      clear hB2 hB3 ho hG
      go_wp2_with fail
      refine leaves_cons (f := 29) (args := #[.pointer (some ⟨w.heap.size, 0, none⟩), .pointer (some ⟨w.heap.size + 1, 0, none⟩)]) (by simp) (by simp [go_sem]) ?_
      refine (catch_panicking w.heap.size (w.heap.size + 1) sup0 0 _ _ [] _ (by omega) HY2.out HY3.out).mono ?_
      rintro e u' w'' ⟨rfl, rfl, k2, k3, ko⟩
      exact leaves_up (fun _ _ h => .inr ⟨HG.out, h⟩) <| UnQ.of (r := (sup0, 53)) ((HW3.out.trans (HO.out.below HW3.out.size (by simp; omega))).trans (ko.below (by have := HO.out.size; have := HW3.out.size; omega) (by simp))) rfl rfl k2 k3
end Go.Proofs.YtgehbfnfhjpjbaaDoor
