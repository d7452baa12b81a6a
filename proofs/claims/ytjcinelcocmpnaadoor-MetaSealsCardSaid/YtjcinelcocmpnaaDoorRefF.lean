/- The document's superblock: Sizes, wide, place, fields, Fit. -/
import Derived.Test.YtjcinelcocmpnaaDoorSupJ
namespace Go.Proofs.YtjcinelcocmpnaaDoor
open Go.RowKit
set_option linter.unusedVariables false
set_option linter.unusedSimpArgs false
set_option maxHeartbeats 400000 in
theorem rsizes_yes (b : Int) (w : World) (hb : okSize b) : Calls Tryd.prog 33 #[.int .i64 b] w fun e w' => e = .returned (.bool true) ∧ w = w' := by
  rcases hb with rfl | rfl | rfl | rfl
  all_goals
    go_enter Tryd.func33, Tryd.ntmps33
    go_wp2
    go_ret
    exact ⟨rfl, rfl⟩
set_option maxHeartbeats 400000 in
theorem rsizes_no (b : Int) (w : World) (hb : ¬ okSize b) : Calls Tryd.prog 33 #[.int .i64 b] w fun e w' => e = .returned (.bool false) ∧ w = w' := by
  unfold okSize at hb
  have h1 : (b == 128) = false := by simp; omega
  have h2 : (b == 256) = false := by simp; omega
  have h3 : (b == 512) = false := by simp; omega
  have h4 : (b == 1024) = false := by simp; omega
  go_enter Tryd.func33, Tryd.ntmps33
  go_wp2
  go_ret
  exact ⟨rfl, rfl⟩
theorem rsizes_ok (b : Int) (w : World) : Calls Tryd.prog 33 #[.int .i64 b] w fun e w' => e = .returned (.bool (szB b)) ∧ w = w' := by
  by_cases h : okSize b
  · have : szB b = true := decide_eq_true h
    rw [this]; exact rsizes_yes b w h
  · have : szB b = false := decide_eq_false h
    rw [this]; exact rsizes_no b w h
set_option maxHeartbeats 2000000 in
set_option maxRecDepth 100000 in
theorem rfit_ok (s : Sup) (w : World) :
    Calls Tryd.prog 27 #[.agg s.arr] w (FtQ s w) := by
  obtain ⟨sq, bl, sz, sl, cu, bm, o1, o2, fl, mr⟩ := s
  simp only [Sup.arr]
  go_enter Tryd.func27, Tryd.ntmps27
  go_wp2_with (go_at_call 33; refine (rsizes_ok _ _).mono ?_; rintro e w' ⟨rfl, rfl⟩)
  all_goals
    have hsz : szB sz = true ↔ okSize sz := by unfold szB; exact decide_eq_true_iff
    go_ret
    refine ⟨⟨_, rfl, ?_⟩, (Below.refl _ _).alloc (Nat.le_refl _) _⟩
    simp only [Fits]
    constructor
    · intro hr
      first
        | (exfalso; exact Bool.noConfusion hr)
        | (simp only [decide_eq_true_eq] at hr; exact ⟨by omega, by omega, by omega, by omega, hsz.1 (by assumption), by omega, by omega, by omega, by omega, by omega⟩)
        | exact ⟨by omega, by omega, by omega, by omega, hsz.1 (by assumption), by omega, by omega, by omega, by omega, by omega⟩
        | exact ⟨by omega, by omega, by omega, by omega, hsz.1 (by simp_all), by omega, by omega, by simp_all, by simp_all, by simp_all⟩
    · rintro ⟨a1, a2, a3, a4, a5, a6, a7, a8, a9, a10⟩
      first
        | rfl
        | (exfalso; omega)
        | (simp; omega)
        | (exfalso; have := hsz.2 a5; simp_all)
        | (simp_all)
/-- How many bytes field number f has; where its first byte lies. -/
def wdN (f : Nat) : Nat := if f = 0 ∨ (5 ≤ f ∧ f ≤ 8) then 8 else 4
def plN : Nat → Nat
  | 0 => 8
  | f + 1 => plN f + wdN f
set_option maxHeartbeats 400000 in
theorem wide_ok (f : Nat) (w : World) (hf : f < 10) : Calls Tryd.prog 35 #[.int .i64 f] w fun e w' => e = .returned (.int .i64 (wdN f)) ∧ w = w' := by
  have : f = 0 ∨ f = 1 ∨ f = 2 ∨ f = 3 ∨ f = 4 ∨ f = 5 ∨ f = 6 ∨ f = 7 ∨ f = 8 ∨ f = 9 := by omega
  rcases this with rfl | rfl | rfl | rfl | rfl | rfl | rfl | rfl | rfl | rfl
  all_goals
    go_enter Tryd.func35, Tryd.ntmps35
    go_wp2
    go_ret
    exact ⟨rfl, rfl⟩
theorem wdN_le (f : Nat) : wdN f ≤ 8 := by unfold wdN; split <;> omega
theorem plN_le (f : Nat) : plN f ≤ 8 + 8 * f := by
  induction f with
  | zero => decide
  | succ f ih => have := wdN_le f; show plN f + wdN f ≤ _; omega
set_option maxHeartbeats 1000000 in
theorem place_ok (f : Nat) (w : World) (hf : f < 10) : Calls Tryd.prog 34 #[.int .i64 f] w fun e w' => e = .returned (.int .i64 (plN f)) ∧ w = w' := by
  go_enter Tryd.func34, Tryd.ntmps34
  go_wp2_with fail
  go_loopw [3, 4, 5] (fun a i _ wr => ∃ k : Nat, k ≤ f ∧ a = .int .i64 (plN k) ∧ i = .int .i64 k ∧ w = wr) (fun _ i _ _ => f - (intOf i).toNat)
  case atStart => exact ⟨0, by omega, rfl, rfl, rfl⟩
  case round =>
    obtain ⟨k, hk, rfl, rfl, rfl⟩ := hrel
    have hp := plN_le k
    have hw := wdN_le k
    by_cases hlt : k < f
    · have e1 : plN (k + 1) = plN k + wdN k := rfl
      have E1 := Lib.hid e1
      clear e1
      go_wp2_with (go_at_call 35; refine (wide_ok k _ (by omega)).mono ?_; rintro e w' ⟨rfl, rfl⟩)
      go_roundw
      case rel => exact ⟨k + 1, by omega, by rw [E1.out]; simp, by go_num, by first | rfl | trivial⟩
      case measure => simp [intOf] <;> omega
    · obtain rfl : k = f := by omega
      go_wp2
      go_ret
      exact ⟨rfl, rfl⟩
end Go.Proofs.YtjcinelcocmpnaaDoor
