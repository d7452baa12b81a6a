/- Which superblocks may be: sized, fits. -/
import Derived.Test.YtgehbfnfhjpjbaaDoorSupC
import Derived.Laws.BitsAllLaws
namespace Go.Proofs.YtgehbfnfhjpjbaaDoor
open Go.RowKit
set_option linter.unusedVariables false
set_option linter.unusedSimpArgs false
set_option maxHeartbeats 400000 in
theorem sized_yes (b : Int) (w : World) (hb : okSize b) : Calls Tryd.prog 25 #[.int .i64 b] w fun e w' => e = .returned (.bool true) ∧ w = w' := by
  rcases hb with rfl | rfl | rfl | rfl
  all_goals
    go_enter Tryd.func25, Tryd.ntmps25
    go_wp2
    go_ret
    exact ⟨rfl, rfl⟩
set_option maxHeartbeats 400000 in
theorem sized_no (b : Int) (w : World) (hb : ¬ okSize b) : Calls Tryd.prog 25 #[.int .i64 b] w fun e w' => e = .returned (.bool false) ∧ w = w' := by
  unfold okSize at hb
  have h1 : (b == 128) = false := by simp; omega
  have h2 : (b == 256) = false := by simp; omega
  have h3 : (b == 512) = false := by simp; omega
  have h4 : (b == 1024) = false := by simp; omega
  go_enter Tryd.func25, Tryd.ntmps25
  go_wp2
  go_ret
  exact ⟨rfl, rfl⟩
instance (b : Int) : Decidable (okSize b) := by unfold okSize; exact inferInstance
/-- The test of sizes as the program answers it. -/
def szB (b : Int) : Bool := decide (okSize b)
theorem sized_ok (b : Int) (w : World) : Calls Tryd.prog 25 #[.int .i64 b] w fun e w' => e = .returned (.bool (szB b)) ∧ w = w' := by
  by_cases h : okSize b
  · have : szB b = true := decide_eq_true h
    rw [this]; exact sized_yes b w h
  · have : szB b = false := decide_eq_false h
    rw [this]; exact sized_no b w h
theorem and_high (a : Nat) (h : a < 4294967296) : a &&& 4294967280 = 16 * (a / 16) := by
  have h1 : (a &&& 4294967280) / 2 ^ 4 = a / 2 ^ 4 &&& 4294967280 / 2 ^ 4 := Nat.and_div_two_pow
  have h2 : (a &&& 4294967280) % 2 ^ 4 = a % 2 ^ 4 &&& 4294967280 % 2 ^ 4 := Nat.and_mod_two_pow
  rw [show 4294967280 / 2 ^ 4 = 2 ^ 28 - 1 from rfl, Nat.and_two_pow_sub_one_eq_mod] at h1
  rw [show 4294967280 % 2 ^ 4 = 0 from rfl, Nat.and_zero] at h2
  have h3 : a / 2 ^ 4 % 2 ^ 28 = a / 2 ^ 4 := Nat.mod_eq_of_lt (by omega)
  omega
theorem flags_test (fl : Int) (h1 : 0 ≤ fl) (h2 : fl < 4294967296) : (bits .andNot .u32 fl 15 == 0) = decide (fl ≤ 15) := by
  obtain ⟨m, rfl⟩ := Int.eq_ofNat_of_zero_le h1
  have := u32_andNot_nat m 15 (by omega) (by omega)
  rw [show ((15 : Nat) : Int) = 15 from rfl, show 4294967295 - 15 = 4294967280 from rfl, and_high m (by omega)] at this
  rw [this, Bool.eq_iff_iff]
  simp only [beq_iff_eq, decide_eq_true_eq]
  omega
theorem flags_bits (fl : Int) (h1 : 0 ≤ fl) (h2 : fl < 4294967296) : bits .andNot .u32 fl 15 = 16 * (fl / 16) := by
  obtain ⟨m, rfl⟩ := Int.eq_ofNat_of_zero_le h1
  have := u32_andNot_nat m 15 (by omega) (by omega)
  rw [show ((15 : Nat) : Int) = 15 from rfl, show 4294967295 - 15 = 4294967280 from rfl, and_high m (by omega)] at this
  rw [this]; omega
/-- What fits answers. -/
def FtQ (s : Sup) (w : World) (e : Ending) (w' : World) : Prop := (∃ r : Bool, e = .returned (.bool r) ∧ (r = true ↔ Fits s)) ∧ Below w.heap.size w w'
set_option maxHeartbeats 2000000 in
set_option maxRecDepth 100000 in
theorem fits_ok (s : Sup) (w : World) (h1 : 0 ≤ s.fl) (h2 : s.fl < 4294967296) :
    Calls Tryd.prog 14 #[.agg s.arr] w (FtQ s w) := by
  obtain ⟨sq, bl, sz, sl, cu, bm, o1, o2, fl, mr⟩ := s
  simp only [Sup.arr]
  have hfl := flags_test fl h1 h2
  go_enter Tryd.func14, Tryd.ntmps14
  go_wp2_with (go_at_call 25; refine (sized_ok _ _).mono ?_; rintro e w' ⟨rfl, rfl⟩)
  all_goals
    have hsz : szB sz = true ↔ okSize sz := by unfold szB; exact decide_eq_true_iff
    go_ret
    refine ⟨⟨_, rfl, ?_⟩, (Below.refl _ _).alloc (Nat.le_refl _) _⟩
    simp only [Fits]
    constructor
    · intro hr
      first
        | (exfalso; exact Bool.noConfusion hr)
        | (simp only [decide_eq_true_eq] at hr; exact ⟨by omega, by omega, by omega, by omega, hsz.1 (by assumption), by omega, by omega, by omega, by omega, hr⟩)
    · rintro ⟨a1, a2, a3, a4, a5, a6, a7, a8, a9, a10⟩
      first
        | (simpa using a10)
        | (exfalso; omega)
        | (exfalso; have := hsz.2 a5; simp_all)
end Go.Proofs.YtgehbfnfhjpjbaaDoor
