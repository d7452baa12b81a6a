/- The reference's bitmap as words. -/
import Derived.Test.YtbfebfeliddpnaaDoorRnD
import Derived.Outline
namespace Go.Proofs.YtbfebfeliddpnaaDoor
open Go.RowKit
set_option linter.unusedVariables false
set_option linter.unusedSimpArgs false
theorem wrap_add_pow (X M : Nat) (h : X + 2 ^ M < 2 ^ 64) : IntKind.u64.wrap ((X : Int) + IntKind.u64.wrap (2 ^ M)) = ((X + 2 ^ M : Nat) : Int) := by
  have h0 : ((2 : Int) ^ M) = ((2 ^ M : Nat) : Int) := by simp
  rw [h0]
  generalize 2 ^ M = P at h ⊢
  have h1 : IntKind.u64.wrap (P : Int) = (P : Int) := wraps64 _ (by omega) (by omega)
  rw [h1, ← Int.natCast_add, wraps64 _ (by omega) (by omega)]
def PackQ (w : World) (n : Nat) (f : Nat → Bool) (e : Ending) (w' : World) : Prop := ∃ v, e = .returned v ∧ WordsIn w.heap.size w' v n f ∧ Below w.heap.size w w'
set_option maxHeartbeats 4000000 in
set_option maxRecDepth 100000 in
theorem pack_ok (w : World) (g n : Nat) (f : Nat → Bool) (h1 : 1 ≤ n) (h2 : n ≤ 65536) (hv : RowV 4 w g n (fun i => .bool (f i))) :
    Calls Tryd.prog 131 #[.slice (some ⟨g, 0, none⟩) n n] w (PackQ w n f) := by
  obtain ⟨Q, eQ⟩ : ∃ Q, Q = PackQ w n f := ⟨_, rfl⟩
  rw [← eQ]
  have EQ := Lib.hid eQ
  obtain ⟨W, eW⟩ : ∃ W, W = (n + 63) / 64 := ⟨_, rfl⟩
  obtain ⟨L, eL⟩ : ∃ L, L = w.heap.size := ⟨_, rfl⟩
  have HLN := Lib.hid (fun w => length_ok n w h2)
  rw [← eW] at HLN
  have hWn : W ≤ 65536 := by omega
  have hmk := fun w => run_make_row' (P := Tryd.prog) 28 22 (.int .u64 0) 8 Tryd.underlying28 info_u64 rfl .i64 .i64 W (by omega) (by omega) w
  have hgL : g ≠ L := by have := hv.lt; omega
  have HV0 := Lib.hid (show RowV 4 (w.alloc (.cells (madeCells #[.int .u64 0] W) 22)) g n (fun i => .bool (f i)) from hv.alloc _)
  have HR0 := Lib.hid (show RowA .u64 22 (w.alloc (.cells (madeCells #[.int .u64 0] W) 22)) L W (fun k => (wd f 0 k : Nat)) by rw [eL]; exact (RowA.made .u64 22 w W).congr (fun k _ => rfl))
  have HB0 := Lib.hid (show Below w.heap.size w (w.alloc (.cells (madeCells #[.int .u64 0] W) 22)) from (Below.refl _ _).alloc (Nat.le_refl _) _)
  have EW := Lib.hid eW
  have EL := Lib.hid eL
  clear eQ eW eL hv
  go_enter Tryd.func131, Tryd.ntmps131
  go_wp2_with fail
  refine (HLN.out _).mono ?_
  rintro e w1 ⟨rfl, rfl⟩
  go_wp2_with fail
  rw [show w.heap.size = L from EL.out.symm]
  clear hmk HLN
  go_loopw [4] (fun iv wr => ∃ i : Nat, iv = .int .i64 (i : Nat) ∧ i ≤ n ∧ RowV 4 wr g n (fun i => .bool (f i)) ∧ RowA .u64 22 wr L W (fun k => (wd f i k : Nat)) ∧ Below w.heap.size w wr) (fun iv _ => n - (intOf iv).toNat)
  case atStart => exact ⟨0, rfl, Nat.zero_le _, HV0.out, HR0.out, HB0.out⟩
  case round =>
    obtain ⟨i, rfl, hi, hv, hr, hb⟩ := hrel
    clear HV0 HR0 HB0
    by_cases hlt : i < n
    · have hq : i / 64 < W := by have := EW.out; omega
      have c0 := hv.cell i hlt
      have c1 := hr.cell (i / 64) hq
      have f1 := hr.free (i / 64)
      have d1 : decide (i < n) = true := decide_eq_true hlt
      obtain ⟨b, eb⟩ : ∃ b, b = f i := ⟨_, rfl⟩
      rw [← eb] at c0
      cases b
      · have HR := Lib.hid (hr.congr (g := fun k => (wd f (i + 1) k : Nat)) (fun k _ => by rw [wd_no f i k eb.symm]))
        have HV := Lib.hid hv
        have HB := Lib.hid hb
        clear hv hr hb eb c1 f1
        go_wp2_with fail
        go_roundw
        case rel => exact ⟨i + 1, by go_num, by omega, HV.out, HR.out, HB.out⟩
        case measure => simp [intOf]; omega
      · have hsum := wd_sum f i eb.symm
        have hlt64 := wd_lt f (i + 1) (i / 64)
        obtain ⟨X, eX⟩ : ∃ X, X = wd f i (i / 64) := ⟨_, rfl⟩
        obtain ⟨M, eM⟩ : ∃ M, M = i % 64 := ⟨_, rfl⟩
        have hMi : (i : Int) % 64 = (M : Int) := by omega
        have hM : M < 64 := by omega
        rw [← eX] at c1
        have HV := Lib.hid hv
        have HR := Lib.hid hr
        have HB := Lib.hid hb
        have HSUM := Lib.hid hsum
        have EX := Lib.hid eX
        have EM := Lib.hid eM
        have HL64 := Lib.hid hlt64
        have EB := Lib.hid eb
        clear hv hr hb hsum eX eM hlt64 eb
        have hval : IntKind.u64.wrap ((X : Int) + IntKind.u64.wrap (2 ^ M)) = ((wd f (i + 1) (i / 64) : Nat) : Int) := by
          rw [wrap_add_pow X M (by rw [EX.out, EM.out, ← HSUM.out]; exact HL64.out), HSUM.out, ← EX.out, ← EM.out]
        have HRR := Lib.hid (show RowA .u64 22 (wr.setCell ⟨L, i / 64, none⟩ (.int .u64 (IntKind.u64.wrap ((X : Int) + IntKind.u64.wrap (2 ^ M))))) L W (fun k => (wd f (i + 1) k : Nat)) from (HR.out.put (i / 64) _).congr (fun k _ => by
          by_cases e : k = i / 64
          · rw [if_pos e, e, hval]
          · rw [if_neg e, wd_far f i k e]))
        have HVV := Lib.hid (HV.out.far (p := ⟨L, i / 64, none⟩) hgL (.int .u64 (IntKind.u64.wrap ((X : Int) + IntKind.u64.wrap (2 ^ M)))))
        have HBB := Lib.hid (HB.out.setCell (p := ⟨L, i / 64, none⟩) (by rw [EL.out]; exact Nat.le_refl _) (.int .u64 (IntKind.u64.wrap ((X : Int) + IntKind.u64.wrap (2 ^ M)))))
        clear hval
        go_wp2_with fail
        go_roundw
        case rel => exact ⟨i + 1, by go_num, by omega, HVV.out, HRR.out, HBB.out⟩
        case measure => simp [intOf]; omega
    · obtain rfl : i = n := by omega
      have HF := Lib.hid (show Q (.returned (.slice (some ⟨L, 0, none⟩) W W)) wr by
        rw [EQ.out]
        exact ⟨_, rfl, ⟨L, by rw [EW.out], by rw [EL.out]; exact Nat.le_refl _, by rw [← EW.out]; exact hr⟩, hb⟩)
      have d1 : decide (i < i) = false := decide_eq_false (by omega)
      clear hv hr hb
      go_wp2_with fail
      first | exact HF.out | (go_ret; exact HF.out)
set_option maxHeartbeats 1000000 in
theorem words_ok (w : World) (m g n : Nat) (f : Nat → Bool) (h1 : 1 ≤ n) (h2 : n ≤ 65536) (h : BmG w m g n f) :
    Calls Tryd.prog 105 #[.pointer (some ⟨m, 0, none⟩)] w (PackQ w n f) := by
  have HC := Lib.hid (pack_ok w g n f h1 h2 h.row)
  have c0 : w.cell? ⟨m, 0, none⟩ = some (.slice (some ⟨g, 0, none⟩) n n) := h.blk.cell 0
  obtain ⟨Q, eQ⟩ : ∃ Q, Q = PackQ w n f := ⟨_, rfl⟩
  rw [← eQ]
  have EQ := Lib.hid eQ
  clear eQ h
  go_enter Tryd.func105, Tryd.ntmps105
  go_wp2_with fail
  refine HC.out.mono ?_
  rintro e w1 ⟨v, rfl, ⟨B, rfl, hw⟩, hb⟩
  have HF := Lib.hid (show Q (.returned (.slice (some ⟨B, 0, none⟩) ((n + 63) / 64) ((n + 63) / 64))) w1 by rw [EQ.out]; exact ⟨_, rfl, ⟨B, rfl, hw⟩, hb⟩)
  clear hw hb
  go_wp2_with fail
  first | exact HF.out | (go_ret; exact HF.out)
end Go.Proofs.YtbfebfeliddpnaaDoor
