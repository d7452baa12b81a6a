/- The reference's bitmap out of words. -/
import Derived.Test.YtbfebfeliddpnaaDoorRnB
import Derived.Outline
import Derived.Deep.CutRange
namespace Go.Proofs.YtbfebfeliddpnaaDoor
open Go.RowKit
set_option linter.unusedVariables false
set_option linter.unusedSimpArgs false
theorem info_bool : (Tryd.prog.info? 4).map (fun i => (i.zero, i.size, i.bytes)) = some (some (.bool false), 1, 1) := by kernel_rfl
set_option maxHeartbeats 400000 in
theorem length_ok (n : Nat) (w : World) (h : n ≤ 65536) : Calls Tryd.prog 98 #[.int .i64 (n : Nat)] w fun e w' => e = .returned (.int .i64 ((n + 63) / 64 : Nat)) ∧ w = w' := by
  have he : ((n : Int) + 63) / 64 = (((n + 63) / 64 : Nat) : Int) := by omega
  go_enter Tryd.func98, Tryd.ntmps98
  go_wp2_with fail
  go_ret
  exact ⟨by first | rfl | (rw [he]; rfl), rfl⟩
/-- The last word has no bit above the last. -/
theorem wd_last (f : Nat → Bool) (n : Nat) (h : n % 64 ≠ 0) : wd f n ((n + 63) / 64 - 1) / 2 ^ (n % 64) = 0 := by
  have h1 := wd_in f (n / 64) (n % 64) (by omega)
  rw [show 64 * (n / 64) + n % 64 = n by omega] at h1
  rw [show (n + 63) / 64 - 1 = n / 64 by omega]
  exact Nat.div_eq_of_lt h1
theorem wd_get (f : Nat → Bool) (n i : Nat) (h : i < n) : decide (wd f n (i / 64) / 2 ^ (i % 64) % 2 = 1) = f i := by
  have h1 := wd_bit f n (i / 64) (i % 64)
  rw [show 64 * (i / 64) + i % 64 = i by omega, decide_eq_true (by omega : i % 64 < 64), decide_eq_true h, Nat.testBit_eq_decide_div_mod_eq] at h1
  simpa using h1
set_option maxHeartbeats 2000000 in
set_option maxRecDepth 100000 in
theorem listed_ok (n B : Nat) (f : Nat → Bool) (w : World) (h1 : 1 ≤ n) (h2 : n ≤ 65536) (hr : RowA .u64 22 w B ((n + 63) / 64) (fun k => (wd f n k : Nat))) :
    Calls Tryd.prog 61 #[.int .i64 (n : Nat), .slice (some ⟨B, 0, none⟩) ((n + 63) / 64) ((n + 63) / 64)] w fun e w' => e = .returned (.int .i64 0) ∧ ∃ m, w' = w.drewN m := by
  obtain ⟨W, eW⟩ : ∃ W, W = (n + 63) / 64 := ⟨_, rfl⟩
  have HL := Lib.hid (fun w => length_ok n w h2)
  have hc := hr.cell (W - 1) (by omega)
  obtain ⟨X, eX⟩ : ∃ X, X = wd f n (W - 1) := ⟨_, rfl⟩
  have hx0 : n % 64 ≠ 0 → X / 2 ^ (n % 64) = 0 := fun h => by rw [eX, eW]; exact wd_last f n h
  have hX : X < 2 ^ 64 := by rw [eX]; exact wd_lt _ _ _
  rw [← eX] at hc
  rw [← eW] at HL ⊢
  have hW : 1 ≤ W := by omega
  have hW2 : W ≤ 65536 := by omega
  have HX0 := Lib.hid hx0
  clear eX hr hx0 eW
  obtain ⟨M, eM⟩ : ∃ M, M = n % 64 := ⟨_, rfl⟩
  have hMi : (n : Int) % 64 = (M : Int) := by omega
  have hM : M < 64 := by omega
  rw [← eM] at HX0
  by_cases h0 : M = 0
  · have hg : ((n : Int) % 64 != 0) = false := by simp; omega
    clear eM hMi
    subst h0
    go_enter Tryd.func61, Tryd.ntmps61
    go_wp2_with fail
    refine (HL.out _).mono ?_
    rintro e w1 ⟨rfl, rfl⟩
    go_wp2_with fail
    first | exact ⟨rfl, 0, rfl⟩ | (go_ret; exact ⟨rfl, 0, rfl⟩)
  · have hx2 : X / 2 ^ M = 0 := HX0.out h0
    have hx1 : (X : Int) / 2 ^ M = 0 := by
      have h8 : ((X / 2 ^ M : Nat) : Int) = (X : Int) / 2 ^ M := by simp
      rw [← h8, hx2]; rfl
    have hg : ((M : Int) != 0) = true := by simp; omega
    clear eM h0
    go_enter Tryd.func61, Tryd.ntmps61
    go_wp2_with fail
    refine (HL.out _).mono ?_
    rintro e w1 ⟨rfl, rfl⟩
    go_wp2_with fail
    first | exact ⟨rfl, 0, rfl⟩ | (go_ret; exact ⟨rfl, 0, rfl⟩)
/-- Block m is the reference's bitmap of those bits. -/
def BmR (lo : Nat) (w : World) (m n : Nat) (f : Nat → Bool) : Prop := ∃ g, Blk w m 176 #[.slice (some ⟨g, 0, none⟩) n n] ∧ RowV 4 w g n (fun i => .bool (f i)) ∧ lo ≤ m ∧ lo ≤ g
theorem bit_test (X M : Nat) (hX : X < 2 ^ 64) : (bits .and .u64 ((X : Int) / 2 ^ M) 1 == 1) = decide (X / 2 ^ M % 2 = 1) := by
  have h1 : X / 2 ^ M ≤ X := Nat.div_le_self _ _
  have h2 : (X : Int) / 2 ^ M = ((X / 2 ^ M : Nat) : Int) := by simp
  have h3 := bits_and_u64_nat (X / 2 ^ M) 1 (by omega) (by omega)
  rw [h2, show (1 : Int) = ((1 : Nat) : Int) from rfl, h3, Nat.and_one_is_mod, Bool.eq_iff_iff, beq_iff_eq, decide_eq_true_iff]
  omega
theorem RowV.only {O : Nat → Prop} {t : TypeId} {w w1 : World} {B n : Nat} {f : Nat → Value} (h : RowV t w B n f) (ho : OnlyP O w w1) (hO : ¬ O B) : RowV t w1 B n f := h.keep (ho.block B h.lt hO)
def BoolsQ (w : World) (n : Nat) (f : Nat → Bool) (e : Ending) (w' : World) : Prop :=
  ∃ g, e = .returned (.slice (some ⟨g, 0, none⟩) n n) ∧ w.heap.size ≤ g ∧ RowV 4 w' g n (fun i => .bool (f i)) ∧ Below w.heap.size w w'
set_option maxHeartbeats 4000000 in
set_option maxRecDepth 100000 in
theorem bools_ok (n B : Nat) (f : Nat → Bool) (w : World) (h1 : 1 ≤ n) (h2 : n ≤ 65536) (hr : RowA .u64 22 w B ((n + 63) / 64) (fun k => (wd f n k : Nat))) :
    Calls Tryd.prog 128 #[.int .i64 (n : Nat), .slice (some ⟨B, 0, none⟩) ((n + 63) / 64) ((n + 63) / 64)] w (BoolsQ w n f) := by
  obtain ⟨Q, eQ⟩ : ∃ Q, Q = BoolsQ w n f := ⟨_, rfl⟩
  rw [← eQ]
  have EQ := Lib.hid eQ
  obtain ⟨W, eW⟩ : ∃ W, W = (n + 63) / 64 := ⟨_, rfl⟩
  obtain ⟨g, eg⟩ : ∃ g, g = w.heap.size := ⟨_, rfl⟩
  rw [← eW] at hr ⊢
  have hmk := fun w => run_make_row' (P := Tryd.prog) 173 4 (.bool false) 1 Tryd.underlying173 info_bool rfl .i64 .i64 n (by omega) (by omega) w
  have hBg : B ≠ g := by have := hr.lt; omega
  have hv0 : RowV 4 (w.alloc (.cells (madeCells #[.bool false] n) 4)) g n (fun i => .bool (decide (i < 0) && f i)) := by rw [eg]; exact (RowV.made (.bool false) 4 w n).congr (fun i _ => by simp)
  have HV0 := Lib.hid hv0
  have HR0 := Lib.hid (hr.alloc (.cells (madeCells #[.bool false] n) 4))
  have HB0 := Lib.hid (show Below w.heap.size w (w.alloc (.cells (madeCells #[.bool false] n) 4)) from (Below.refl _ _).alloc (Nat.le_refl _) _)
  have hWn : W ≤ 65536 := by omega
  have EW := Lib.hid eW
  have EG := Lib.hid eg
  clear eQ eW eg hr hv0
  go_enter Tryd.func128, Tryd.ntmps128
  go_wp2_with fail
  rw [show w.heap.size = g from EG.out.symm]
  clear hmk
  go_loopw [6] (fun iv wr => ∃ i : Nat, iv = .int .i64 (i : Nat) ∧ i ≤ n ∧ RowV 4 wr g n (fun j => .bool (decide (j < i) && f j)) ∧ RowA .u64 22 wr B W (fun k => (wd f n k : Nat)) ∧ Below w.heap.size w wr) (fun iv _ => n - (intOf iv).toNat)
  case atStart => exact ⟨0, rfl, Nat.zero_le _, HV0.out, HR0.out, HB0.out⟩
  case round =>
    obtain ⟨i, rfl, hi, hv, hr, hb⟩ := hrel
    by_cases hlt : i < n
    · have hq : i / 64 < W := by have := EW.out; omega
      have hc := hr.cell (i / 64) hq
      have hg1 := hv.cell i hlt
      have hgf := hv.free i
      have hget := wd_get f n i hlt
      have hX : wd f n (i / 64) < 2 ^ 64 := wd_lt _ _ _
      have hmod : i % 64 < 64 := by omega
      obtain ⟨X, eX⟩ : ∃ X, X = wd f n (i / 64) := ⟨_, rfl⟩
      obtain ⟨M, eM⟩ : ∃ M, M = i % 64 := ⟨_, rfl⟩
      have hMi : (i : Int) % 64 = (M : Int) := by omega
      rw [← eX] at hc hget hX
      rw [← eM] at hget hmod
      have d1 : decide (i < n) = true := decide_eq_true hlt
      have HV := Lib.hid hv
      have HR := Lib.hid hr
      have HB := Lib.hid hb
      have HGET := Lib.hid hget
      clear hv hr hb hget eX eM HV0 HR0 HB0
      have hval : (bits .and .u64 ((X : Int) / 2 ^ M) 1 == 1) = f i := by rw [bit_test X M hX]; exact HGET.out
      have HVV := Lib.hid (show RowV 4 (wr.setCell ⟨g, i, none⟩ (.bool (bits .and .u64 ((X : Int) / 2 ^ M) 1 == 1))) g n (fun j => .bool (decide (j < i + 1) && f j)) from (HV.out.put i _).congr (fun j hj => by
        by_cases e : j = i
        · rw [if_pos e, e, hval, decide_eq_true (by omega : i < i + 1), Bool.true_and]
        · rw [if_neg e]
          by_cases h : j < i
          · rw [decide_eq_true h, decide_eq_true (by omega : j < i + 1)]
          · rw [decide_eq_false h, decide_eq_false (by omega : ¬ j < i + 1)]))
      have HRR := Lib.hid (HR.out.far (p := ⟨g, i, none⟩) hBg (.bool (bits .and .u64 ((X : Int) / 2 ^ M) 1 == 1)))
      have HBB := Lib.hid (HB.out.setCell (p := ⟨g, i, none⟩) (by rw [EG.out]; exact Nat.le_refl _) (.bool (bits .and .u64 ((X : Int) / 2 ^ M) 1 == 1)))
      clear hval
      go_wp2_with fail
      go_roundw
      case rel => exact ⟨i + 1, by go_num, by omega, HVV.out, HRR.out, HBB.out⟩
      case measure => simp [intOf]; omega
    · obtain rfl : i = n := by omega
      have HF := Lib.hid (show Q (.returned (.slice (some ⟨g, 0, none⟩) i i)) wr by
        rw [EQ.out]
        exact ⟨g, rfl, by rw [EG.out]; exact Nat.le_refl _, hv.congr (fun j hj => by rw [decide_eq_true hj, Bool.true_and]), hb⟩)
      have d1 : decide (i < i) = false := decide_eq_false (by omega)
      clear hv hr hb
      go_wp2_with fail
      first | exact HF.out | (go_ret; exact HF.out)
def FromQ (w : World) (n : Nat) (f : Nat → Bool) (e : Ending) (w' : World) : Prop :=
  ∃ m, e = .returned (.tuple #[.pointer (some ⟨m, 0, none⟩), .int .i64 0]) ∧ BmR w.heap.size w' m n f ∧ Below w.heap.size w w'
set_option maxHeartbeats 4000000 in
set_option maxRecDepth 100000 in
theorem from_ok (n B : Nat) (f : Nat → Bool) (w : World) (h1 : 1 ≤ n) (h2 : n ≤ 65536) (hr : RowA .u64 22 w B ((n + 63) / 64) (fun k => (wd f n k : Nat))) :
    Calls Tryd.prog 99 #[.int .i64 (n : Nat), .slice (some ⟨B, 0, none⟩) ((n + 63) / 64) ((n + 63) / 64)] w (FromQ w n f) := by
  obtain ⟨Q, eQ⟩ : ∃ Q, Q = FromQ w n f := ⟨_, rfl⟩
  rw [← eQ]
  have EQ := Lib.hid eQ
  have HL := Lib.hid (listed_ok n B f w h1 h2 hr)
  have HB := Lib.hid (fun m => bools_ok n B f (w.drewN m) h1 h2 (hr.drewN m))
  obtain ⟨W, eW⟩ : ∃ W, W = (n + 63) / 64 := ⟨_, rfl⟩
  rw [← eW] at HL HB ⊢
  clear eQ eW hr
  go_enter Tryd.func99, Tryd.ntmps99
  go_wp2_with fail
  refine HL.out.mono ?_
  rintro e w1 ⟨rfl, m, rfl⟩
  go_wp2_with fail
  refine (HB.out m).mono ?_
  rintro e w2 ⟨g, rfl, hg, hv, hb⟩
  have hg' : w.heap.size ≤ g := hg
  have hbb : Below w.heap.size w w2 := ⟨hb.os, hb.tape, hb.output, hb.size, hb.block⟩
  have HF := Lib.hid (show Q (.returned (.tuple #[.pointer (some ⟨w2.heap.size, 0, none⟩), .int .i64 0])) (w2.alloc (.cells #[.slice (some ⟨g, 0, none⟩) n n] 176)) by
    rw [EQ.out]
    exact ⟨_, rfl, ⟨g, Blk.new _ _ _, hv.alloc _, hbb.size, hg'⟩, hbb.alloc hbb.size _⟩)
  clear HL HB hg hv hb hg' hbb
  go_wp2_with fail
  first | exact HF.out | (go_ret2; exact HF.out)
end Go.Proofs.YtbfebfeliddpnaaDoor
