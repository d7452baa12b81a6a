/- A superblock read back: Unseal. -/
import Derived.Test.YtgehbfnfhjpjbaaDoorArrEq
import Derived.Laws.BytesArg
import Derived.Recover
import Derived.Deep.RegionHeld3
namespace Go.Proofs.YtgehbfnfhjpjbaaDoor
open Go.RowKit
set_option linter.unusedVariables false
set_option linter.unusedSimpArgs false
open Classical in
/-- What Unseal answers. -/
noncomputable def unF (K : Nat → Int) (S : St) (xs : List Int) : Sup × Int :=
  if ¬ okSize xs.length then (sup0, 3) else if xs.take 8 ≠ lettersL then (sup0, 51) else if xs.drop (xs.length - 32) ≠ shaF K S (xs.take (xs.length - 32)) then (sup0, 52) else if ¬ Good xs then (sup0, 53) else (supOf xs, 0)
def UnQ (r : Sup × Int) (w : World) (e : Ending) (w' : World) : Prop := e = .returned (.tuple #[.agg r.1.arr, .int .i64 r.2]) ∧ Below w.heap.size w w'
theorem step_binop {P : Program} {ops : Array Oper} {op : Oper} {a : Act} {w : World} {K : Act → World → Prop} {Q : Exit → Act → World → Prop} {E : Prop} (hgd : op.guard = none) (bo : BinOp) (t : TypeId) (x y : Operand) (t' : TypeId) (ho : op.op = .binOp bo t x y t')
    (u v : Value) (hx : a.eval x = u) (hy : a.eval y = v) {r : Value} (hr : ((eqGuard bo t x y u v).run P w = .ok () w ∧ (binOp bo t u v).run P w = .ok r w))
    (h : K (a.put op.dst r) w) : if Region.wanted op (yielded ops a.tmps) = true then Oper.wp P op a w K Q else E := by
  have hw : Region.wanted op (yielded ops a.tmps) = true := by simp [Region.wanted, hgd]
  rw [if_pos hw]
  unfold Oper.wp execOp
  simp only [ho, hx, hy, Sem.run_bind, hr.1, hr.2, Result.andThen_ok, Sem.run_pure]
  exact h
theorem bytes_back (l : List Int) (h : Bytes l) : (l.map fun n => UInt8.ofNat n.toNat).map (fun u : UInt8 => (u.toNat : Int)) = l := by
  rw [List.map_map]
  conv => rhs; rw [← List.map_id l]
  apply List.map_congr_left
  intro x hx
  have := h x hx
  simp only [Function.comp, id, UInt8.toNat_ofNat']
  omega
theorem letters_test (l : List Int) (hb : Bytes l) : ((strOfNums l).toList == [82, 69, 80, 76, 73, 67, 65, 49]) = decide (l = lettersL) := by
  rw [show (strOfNums l).toList = l.map fun n => UInt8.ofNat n.toNat from by simp [strOfNums], Bool.eq_iff_iff, beq_iff_eq, decide_eq_true_iff]
  constructor
  · intro h
    have := bytes_back l hb
    rw [h] at this
    rw [← this]; rfl
  · intro h; subst h; rfl
theorem Bytes.take {l : List Int} (h : Bytes l) (n : Nat) : Bytes (l.take n) := fun x hx => h x (List.mem_of_mem_take hx)
theorem Bytes.drop {l : List Int} (h : Bytes l) (n : Nat) : Bytes (l.drop n) := fun x hx => h x (List.mem_of_mem_drop hx)
theorem sup_size : (Tryd.prog.info? 27).map (·.size) = some 10 := by kernel_rfl
theorem un_results (tmps : Array Value) (w : World) (g h : Nat) (s : Sup) (e : Int) (hp : tmps.getD 2 undef = .pointer (some ⟨g, 0, none⟩)) (hq : tmps.getD 3 undef = .pointer (some ⟨h, 0, none⟩))
    (H2 : Blk w g 27 s.arr) (H3 : Blk w h 32 #[.int .i64 e]) : (results Tryd.f24 tmps).run Tryd.prog w = .ok (.tuple #[.agg s.arr, .int .i64 e]) w := by
  have hp' : tmps[2]?.getD undef = .pointer (some ⟨g, 0, none⟩) := by simpa using hp
  have hq' : tmps[3]?.getD undef = .pointer (some ⟨h, 0, none⟩) := by simpa using hq
  have d0 := H2.cell 0
  have d1 := H2.cell 1
  have d2 := H2.cell 2
  have d3 := H2.cell 3
  have d4 := H2.cell 4
  have d5 := H2.cell 5
  have d6 := H2.cell 6
  have d7 := H2.cell 7
  have d8 := H2.cell 8
  have d9 := H2.cell 9
  simp only [Sup.arr, List.getElem?_toArray, List.getElem?_cons_zero, List.getElem?_cons_succ] at d0 d1 d2 d3 d4 d5 d6 d7 d8 d9
  have c3 := H3.cell 0
  simp only [List.getElem?_toArray, List.getElem?_cons_zero] at c3
  simp [results, Tryd.results24, hp', hq', asAddr, go_sem, c3, d0, d1, d2, d3, d4, d5, d6, d7, d8, d9, Sup.arr]
theorem UnQ.of {r : Sup × Int} {w w' : World} {tmps : Array Value} {g h : Nat} (hb : Below w.heap.size w w') (hp : tmps.getD 2 undef = .pointer (some ⟨g, 0, none⟩)) (hq : tmps.getD 3 undef = .pointer (some ⟨h, 0, none⟩))
    (H2 : Blk w' g 27 r.1.arr) (H3 : Blk w' h 32 #[.int .i64 r.2]) : Leaves Tryd.prog Tryd.f24 tmps (UnQ r w) [] .returning w' :=
  ⟨_, un_results tmps w' g h r.1 r.2 hp hq H2 H3, rfl, hb⟩
set_option maxHeartbeats 4000000 in
set_option maxRecDepth 100000 in
theorem unseal_size (n : Nat) (A : Option Addr) (c : Nat) (w : World) (hno : ¬ okSize n) :
    Calls Tryd.prog 24 #[.slice A n c] w (UnQ (sup0, 3) w) := by
  go_enter_defers Tryd.func24, Tryd.ntmps24
  go_wp2_with (go_at_call 25; refine (sized_no _ _ hno).mono ?_; rintro e w' ⟨rfl, rfl⟩)
  exact UnQ.of (r := (sup0, 3)) (((Below.refl _ _).alloc (Nat.le_refl _) _).alloc (by simp) _) rfl rfl ((Blk.newAt _ _ _ _ rfl).alloc _) (Blk.newAt _ _ _ _ (by simp))
set_option maxHeartbeats 4000000 in
set_option maxRecDepth 100000 in
theorem unseal_magic (xs : List Int) (b off c : Nat) (w : World) (hz : okSize xs.length) (hc : xs.length ≤ c) (hbl : b < w.heap.size) (hx : ∀ i, i < xs.length → w.cell? ⟨b, off + i, none⟩ = some (.int .u8 (xs.getD i 0))) (hb : Bytes xs) (hno : xs.take 8 ≠ lettersL) :
    Calls Tryd.prog 24 #[.slice (some ⟨b, off, none⟩) xs.length c] w (UnQ (sup0, 51) w) := by
  have hn : 128 ≤ xs.length ∧ xs.length ≤ 1024 := by unfold okSize at hz; omega
  obtain ⟨N, eN⟩ : ∃ N, N = xs.length := ⟨_, rfl⟩
  rw [← eN] at hn hz hc ⊢
  obtain ⟨hn1, hn2⟩ := hn
  have h8 : (xs.take 8).length = 8 := by rw [List.length_take]; omega
  have hcv := fun (w' : World) (hw : w'.heap[b]? = w.heap[b]?) => run_convert_bytes_arg (P := Tryd.prog) w' 29 5 Tryd.underlying29 Tryd.underlying5 b off 8 c (xs.take 8) h8 (fun i hi => by rw [cell_of_heap hw, hx i (by omega), List.getD_eq_getElem?_getD, List.getD_eq_getElem?_getD, List.getElem?_take, if_pos hi]) 9 Tryd.underlying9
  have hcv2 := hcv ((w.alloc (.cells sup0.arr 27)).alloc (.cells #[.int .i64 0] 32)) ((Below.heap_alloc _ _ _ (by simp; omega)).trans (Below.heap_alloc _ _ _ hbl))
  have htst : ((strOfNums (xs.take 8)).toList == [82, 69, 80, 76, 73, 67, 65, 49]) = false := by rw [letters_test _ (hb.take 8), decide_eq_false hno]
  obtain ⟨st, est⟩ : ∃ st, st = strOfNums (xs.take 8) := ⟨_, rfl⟩
  rw [← est] at hcv2 htst
  simp only [sup0, Sup.arr] at hcv2
  clear hcv eN est
  go_enter_defers Tryd.func24, Tryd.ntmps24
  go_wp2_with (go_at_call 25; refine (sized_yes _ _ hz).mono ?_; rintro e w' ⟨rfl, rfl⟩)
  exact UnQ.of (r := (sup0, 51)) (((Below.refl _ _).alloc (Nat.le_refl _) _).alloc (by simp) _) rfl rfl ((Blk.newAt _ _ _ _ rfl).alloc _) (Blk.newAt _ _ _ _ (by simp))
end Go.Proofs.YtgehbfnfhjpjbaaDoor
