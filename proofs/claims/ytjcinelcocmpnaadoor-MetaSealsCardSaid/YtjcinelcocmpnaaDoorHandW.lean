/- Lists handed in with room behind them: hand, arg. -/
import Derived.Test.YtjcinelcocmpnaaDoorHp
import Derived.Laws.CopyOwn
import Derived.Lib.SliceRun
namespace Go.Proofs.YtjcinelcocmpnaaDoor
open Go.RowKit
set_option linter.unusedVariables false
set_option linter.unusedSimpArgs false
theorem hd_info5 : (Tryd.prog.info? 5).map (fun i => (i.zero, i.size, i.bytes)) = some (some (.int .u8 0), 1, 1) := by kernel_rfl
theorem hd_size5 : (Tryd.prog.info? 5).map (·.size) = some 1 := by kernel_rfl
theorem made_repl (z : Value) (n : Nat) : madeCells #[z] n = (List.replicate n z).toArray := by
  apply Array.ext_getElem?
  intro i
  by_cases h : i < n
  · rw [made_at _ _ _ h]; simp [h]
  · rw [Array.getElem?_eq_none (by rw [made_size]; omega)]; simp [h]
/-- The bytes zs, then the marks 200, 201, .. up to number j; zeroes behind. -/
def handF (zs : List Int) (j i : Nat) : Int := if i < zs.length then zs.getD i 0 else if i < zs.length + j then 200 + ((i - zs.length : Nat) : Int) else 0
theorem handF_zero (zs : List Int) (i : Nat) : handF zs 0 i = if i < zs.length then zs.getD i 0 else 0 := by
  unfold handF
  by_cases h : i < zs.length
  · rw [if_pos h, if_pos h]
  · rw [if_neg h, if_neg h, if_neg (by omega)]
theorem splice_at (L : Nat) (zs : List Int) (hz : zs.length = L) (i : Nat) (hi : i < L + 6) :
    (splice (List.replicate (L + 6) (Value.int .u8 0)) 0 (zs.map (Value.int .u8)))[i]? = some (.int .u8 (handF zs 0 i)) := by
  rw [handF_zero]
  unfold splice
  rw [List.take_zero, List.nil_append, Nat.zero_add, List.length_map, List.getElem?_append, List.length_map]
  by_cases e : i < zs.length
  · rw [if_pos e, if_pos e, List.getElem?_map, List.getD_eq_getElem?_getD, List.getElem?_eq_getElem e]; rfl
  · rw [if_neg e, if_neg e, List.getElem?_drop, List.getElem?_replicate, if_pos (by omega)]
/-- What hand has made. -/
def HandQ (w : World) (zs : List Int) (e : Ending) (w' : World) : Prop :=
  e = .returned (.slice (some ⟨w.heap.size, 0, none⟩) (zs.length + 6) (zs.length + 6)) ∧ Below w.heap.size w w' ∧ RowA .u8 5 w' w.heap.size (zs.length + 6) (handF zs 6)
theorem hand_step {w wr : World} {zs : List Int} {j : Nat} (h : RowA .u8 5 wr w.heap.size (zs.length + 6) (handF zs j)) :
    RowA .u8 5 (wr.setCell ⟨w.heap.size, zs.length + j, none⟩ (.int .u8 (200 + (j : Int)))) w.heap.size (zs.length + 6) (handF zs (j + 1)) := by
  refine (h.put _ _).congr (fun i hi => ?_)
  unfold handF
  by_cases e : i = zs.length + j
  · subst e; rw [if_pos rfl, if_neg (by omega), if_pos (by omega)]; omega
  · rw [if_neg e]
    by_cases e1 : i < zs.length
    · rw [if_pos e1, if_pos e1]
    · rw [if_neg e1, if_neg e1]
      by_cases e2 : i < zs.length + j
      · rw [if_pos e2, if_pos (by omega)]
      · rw [if_neg e2, if_neg (by omega)]
set_option maxHeartbeats 1000000 in
set_option maxRecDepth 100000 in
theorem hand_ok (v : Value) (zs : List Int) (w : World) (hr : Rd .u8 w v zs) (hm : zs.length ≤ 140737488351232) :
    Calls Tryd.prog 14 #[v] w (HandQ w zs) := by
  have hmk := fun w => run_make_row' (P := Tryd.prog) 28 5 (.int .u8 0) 1 Tryd.underlying28 hd_info5 rfl .i64 .i64 (zs.length + 6) (by omega) (by omega) w
  simp only [Int.natCast_add, Int.cast_ofNat_Int] at hmk
  obtain ⟨A, c, rfl⟩ := hr.slice
  obtain ⟨L, eL⟩ : ∃ L, L = zs.length := ⟨_, rfl⟩
  have HR := Lib.hid hr
  have HL := Lib.hid eL
  rw [← eL] at hmk hm ⊢
  clear hr eL
  go_enter Tryd.func14, Tryd.ntmps14
  go_wp2_with (with_reducible refine wpList_copy_splice rfl (.tmp 9) (.tmp 10) 28 28 rfl 5 Tryd.underlying28 hd_size5 _ _ _ _ _ _ rfl rfl w.heap.size 0 (List.replicate (L + 6) (.int .u8 0)) 5 ?c1 (zs.map (Value.int .u8)) ?c2 ?c3 ?c4 ?c5 w.heap.size w ?c6 (Nat.le_refl _) ?_)
  case c1 =>
    have : madeCells #[Value.int .u8 0] (L + 6) = (List.replicate (L + 6) (Value.int .u8 0)).toArray := made_repl _ _
    rw [← this]
    exact Blk.new _ _ _
  case c2 => rw [List.length_map, ← HL.out]; exact (Nat.min_eq_left (by omega)).symm
  case c3 =>
    intro hp
    rcases HR.out with ⟨h0, _⟩ | ⟨b, off, c', e, g1, g2, g3, g4⟩
    · rw [h0] at hp; simp at hp
    · simp only [Value.slice.injEq] at e
      refine ⟨_, e.1, fun j x hj => ?_⟩
      have hj' : j < zs.length := (List.getElem?_eq_some_iff.1 hj).1
      rw [Go.WideShapes.add_plain, World.cell?_alloc_lt _ _ _ g3, g4 j hj', List.getD_eq_getElem?_getD, hj]
      rfl
  case c4 => have := HL.out; simp; omega
  case c5 => intro x hx; simp only [List.mem_map] at hx; obtain ⟨y, _, rfl⟩ := hx; rfl
  case c6 => exact (Below.refl _ _).alloc (Nat.le_refl _) _
  intro w1 hh hb
  have hrow : RowA .u8 5 w1 w.heap.size (L + 6) (handF zs 0) := by
    refine ⟨_, hh.out, ?_, fun i hi => ?_⟩
    · have := HL.out; simp [splice]; omega
    · have := splice_at L zs HL.out.symm i hi
      simpa using this
  have HROW := Lib.hid hrow
  clear hrow hh
  go_wp2_with fail
  go_loopw [4] (fun i wr => ∃ j : Nat, j ≤ 6 ∧ i = .int .i64 j ∧ Below w.heap.size w wr ∧ RowA .u8 5 wr w.heap.size (L + 6) (handF zs j)) (fun i _ => 6 - (intOf i).toNat)
  case atStart => exact ⟨0, by omega, rfl, hb, HROW.out⟩
  case round =>
    obtain ⟨j, hj, rfl, hB, hrow⟩ := hrel
    have HB := Lib.hid hB
    have HROW2 := Lib.hid hrow
    clear hB hrow HROW hb
    by_cases hlt : j < 6
    · have hc := HROW2.out.cell (L + j) (by omega)
      have hf := HROW2.out.free (L + j)
      go_wp2
      go_roundw
      case rel => exact ⟨j + 1, by omega, by go_num, HB.out.setCell (Nat.le_refl _) _, by rw [HL.out] at HROW2 ⊢; exact hand_step HROW2.out⟩
      case measure => simp [intOf] <;> omega
    · obtain rfl : j = 6 := by omega
      have hfin : HandQ w zs (.returned (.slice (some ⟨w.heap.size, 0, none⟩) (L + 6) (L + 6))) wr := by
        have h1 := HROW2.out
        rw [HL.out] at h1 ⊢
        exact ⟨rfl, HB.out, h1⟩
      go_wp2
      go_ret
      exact hfin
/-- What arg gives of it. -/
def argV (g : Nat) (v : Value) (L : Nat) : Value := match v with | .slice none _ _ => .slice none 0 0 | _ => .slice (some ⟨g, 0, none⟩) L (L + 6)
set_option maxHeartbeats 1000000 in
theorem arg_ok (g L c : Nat) (A : Option Addr) (w : World) (hL : L ≤ 140737488351232) : Calls Tryd.prog 16 #[.slice (some ⟨g, 0, none⟩) (L + 6) (L + 6), .slice A L c] w fun e w' => e = .returned (argV g (.slice A L c) L) ∧ w = w' := by
  have hn := fun w => Lib.run_eql_slice_nil (P := Tryd.prog) w 28 5 A L c 0 0 Tryd.underlying28
  cases A
  · go_enter Tryd.func16, Tryd.ntmps16
    go_wp2
    go_ret
    exact ⟨rfl, rfl⟩
  · go_enter Tryd.func16, Tryd.ntmps16
    go_wp2
    go_ret
    exact ⟨rfl, rfl⟩
end Go.Proofs.YtjcinelcocmpnaaDoor
