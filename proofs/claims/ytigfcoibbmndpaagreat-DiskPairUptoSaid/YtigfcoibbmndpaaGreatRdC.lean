/- The reference's Copy. -/
import Derived.Test.YtigfcoibbmndpaaGreatRdB
import Derived.Outline
namespace Go.Proofs.YtigfcoibbmndpaaGreat
open Go.RowKit
open Go.ChangeMaps
set_option linter.unusedVariables false
set_option linter.unusedSimpArgs false
def CopyQ (w : World) (xs : List Int) (e : Ending) (w' : World) : Prop :=
  ∃ B, e = .returned (.slice (some ⟨B, 0, none⟩) xs.length xs.length) ∧ w.heap.size ≤ B ∧ RowA .u8 5 w' B xs.length (fun i => xs.getD i 0) ∧ Below w.heap.size w w'
set_option maxHeartbeats 4000000 in
set_option maxRecDepth 100000 in
theorem rcopy_ok (w : World) (v : Value) (xs : List Int) (hr : Rd .u8 w v xs) (hm : xs.length ≤ 140737488351232) :
    Calls Tryz.prog 29 #[v] w (CopyQ w xs) := by
  obtain ⟨A, cp, rfl⟩ := hr.slice
  obtain ⟨L, eL⟩ : ∃ L, L = xs.length := ⟨_, rfl⟩
  obtain ⟨Q, eQ⟩ : ∃ Q, Q = CopyQ w xs := ⟨_, rfl⟩
  rw [← eQ]
  have HR := Lib.hid hr
  have EL := Lib.hid eL
  have EQ := Lib.hid eQ
  rw [← eL] at hm ⊢
  have hmk := fun w => run_make_row' (P := Tryz.prog) 22 5 (.int .u8 0) 1 Tryz.underlying22 hd_info5 rfl .i64 .i64 L (by omega) (by omega) w
  clear hr eL eQ
  go_enter Tryz.func29, Tryz.ntmps29
  go_wp2_with fail
  obtain ⟨w2, e2⟩ : ∃ w2, w2 = w.alloc (.cells (madeCells #[.int .u8 0] L) 5) := ⟨_, rfl⟩
  have hb2 : Below w.heap.size w w2 := by rw [e2]; exact (Below.refl _ _).alloc (Nat.le_refl _) _
  have hs2 : w2.heap.size = w.heap.size + 1 := by rw [e2]; simp
  have hr2 : RowA .u8 5 w2 w.heap.size L (fun _ => 0) := by rw [e2]; exact RowA.made .u8 5 w L
  rw [← e2]
  have HB2 := Lib.hid hb2
  have HR2 := Lib.hid hr2
  clear hb2 hr2 e2
  go_loopw [4] (fun b wr => ∃ i : Nat, i ≤ L ∧ b = .int .i64 i ∧ RowA .u8 5 wr w.heap.size L (fun t => if t < i then xs.getD t 0 else 0) ∧ Below w.heap.size w wr) (fun b _ => L - (intOf b).toNat)
  case atStart => exact ⟨0, by omega, rfl, HR2.out.congr (fun t _ => by simp), HB2.out⟩
  case round =>
    obtain ⟨i, hi, rfl, hrow, hbel⟩ := hrel
    have HROW := Lib.hid hrow
    have HBEL := Lib.hid hbel
    clear hrow hbel HR2
    by_cases hlt : i < L
    · obtain ⟨bb, off, rfl, hxc⟩ : ∃ bb off, A = some ⟨bb, off, none⟩ ∧ wr.cell? ⟨bb, off + i, none⟩ = some (.int .u8 (xs.getD i 0)) := by
        rcases HR.out with ⟨h, _⟩ | ⟨b, off, c, e, g1, g2, g3, g4⟩
        · rw [EL.out, h] at hlt; simp at hlt
        · simp only [Value.slice.injEq] at e
          exact ⟨b, off, e.1, (cell_of_heap (HBEL.out.block b g3) (off + i)).trans (g4 i (by rw [← EL.out]; exact hlt))⟩
      have fz : wr.frozen? ⟨w.heap.size, i, none⟩ = false := HROW.out.free i
      have cz := HROW.out.cell i hlt
      go_wp2_with fail
      go_roundw
      case rel =>
        refine ⟨i + 1, by omega, by go_num, (HROW.out.put i (xs.getD i 0)).congr (fun t ht => ?_), HBEL.out.setCell (Nat.le_refl _) _⟩
        by_cases e : t = i
        · rw [e, if_pos rfl, if_pos (by omega)]
        · rw [if_neg e]
          by_cases h1 : t < i
          · rw [if_pos h1, if_pos (by omega)]
          · rw [if_neg h1, if_neg (by omega)]
      case measure => simp [intOf] <;> omega
    · obtain rfl : L = i := by omega
      have hfin : Q (.returned (.slice (some ⟨w.heap.size, 0, none⟩) L L)) wr := by
        rw [EQ.out]
        refine ⟨w.heap.size, by rw [EL.out], Nat.le_refl _, ?_, HBEL.out⟩
        have h := HROW.out.congr (g := fun t => xs.getD t 0) (fun t ht => by rw [if_pos ht])
        rw [EL.out] at h; exact h
      have HF := Lib.hid hfin
      clear hfin
      go_wp2_with fail
      first | exact HF.out | (go_ret; exact HF.out)
end Go.Proofs.YtigfcoibbmndpaaGreat
