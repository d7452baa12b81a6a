/- The document's Unpack; what both Unpacks answer where they may not. -/
import Derived.Test.YtjcinelcocmpnaaBitsL
namespace Go.Proofs.Ytjcinelcocmpnaa
open Go.RowKit
set_option linter.unusedVariables false
set_option linter.unusedSimpArgs false
set_option maxHeartbeats 400000 in
theorem domain_yes (n b : Int) (w : World) (h1 : 1 ≤ n) (h2 : n ≤ 65536) (hb : okSize b) : Calls Try.prog 30 #[.int .i64 n, .int .i64 b] w fun e w' => e = .returned (.bool true) ∧ w = w' := by
  go_enter Try.func30, Try.ntmps30
  go_wp2_with (go_at_call 24; refine (rsizes_yes _ _ hb).mono ?_; rintro e w' ⟨rfl, rfl⟩)
  go_ret
  exact ⟨by simp <;> omega, rfl⟩
set_option maxHeartbeats 400000 in
theorem domain_no (n b : Int) (w : World) (h : ¬ (1 ≤ n ∧ n ≤ 65536 ∧ okSize b)) : Calls Try.prog 30 #[.int .i64 n, .int .i64 b] w fun e w' => e = .returned (.bool false) ∧ w = w' := by
  by_cases hb : okSize b
  · have H := Lib.hid h
    clear h
    go_enter Try.func30, Try.ntmps30
    go_wp2_with (go_at_call 24; refine (rsizes_yes _ _ hb).mono ?_; rintro e w' ⟨rfl, rfl⟩)
    all_goals
      go_ret
      refine ⟨?_, rfl⟩
      have := H.out
      have h3 : ¬ (1 ≤ n ∧ n ≤ 65536) := fun h4 => this ⟨h4.1, h4.2, hb⟩
      simp
      try omega
  · clear h
    go_enter Try.func30, Try.ntmps30
    go_wp2_with (go_at_call 24; refine (rsizes_no _ _ hb).mono ?_; rintro e w' ⟨rfl, rfl⟩)
    go_ret
    exact ⟨rfl, rfl⟩
/-- What an Unpack answers where it refuses. -/
def NoWords (er : Int) (w : World) (e : Ending) (w' : World) : Prop := e = .returned (.tuple #[.slice none 0 0, .bool false, .int .i64 er]) ∧ w = w'
set_option maxHeartbeats 400000 in
theorem unpack_arg (n b : Int) (v : Value) (w : World) (h : ¬ (1 ≤ n ∧ n ≤ 65536 ∧ okSize b)) : Calls Try.prog 14 #[.int .i64 n, v, .int .i64 b] w (NoWords 1 w) := by
  go_enter Try.func14, Try.ntmps14
  go_wp2_with fail
  refine (bitmapped_no _ _ _ h).mono ?_
  rintro e w' ⟨rfl, rfl⟩
  go_wp2_with fail
  go_ret3
  exact ⟨rfl, rfl⟩
set_option maxHeartbeats 400000 in
theorem runpack_arg (n b : Int) (v : Value) (w : World) (h : ¬ (1 ≤ n ∧ n ≤ 65536 ∧ okSize b)) : Calls Try.prog 15 #[.int .i64 n, v, .int .i64 b] w (NoWords 1 w) := by
  go_enter Try.func15, Try.ntmps15
  go_wp2_with fail
  refine (domain_no _ _ _ h).mono ?_
  rintro e w' ⟨rfl, rfl⟩
  go_wp2_with fail
  go_ret3
  exact ⟨rfl, rfl⟩
set_option maxHeartbeats 400000 in
theorem unpack_count (n b : Int) (a : Option Addr) (m c : Nat) (w : World) (h1 : 1 ≤ n) (h2 : n ≤ 65536) (hb : okSize b) (hm : ((m : Int) != (n + 8 * b - 1) / (8 * b)) = true) : Calls Try.prog 14 #[.int .i64 n, .slice a m c, .int .i64 b] w (NoWords 3 w) := by
  go_enter Try.func14, Try.ntmps14
  go_wp2_with fail
  refine (bitmapped_ok _ _ _ h1 h2 hb).mono ?_
  rintro e w' ⟨rfl, rfl⟩
  go_wp2_with fail
  refine (areas_ok _ _ _ h1 h2 hb).mono ?_
  rintro e w' ⟨rfl, rfl⟩
  go_wp2_with fail
  go_ret3
  exact ⟨rfl, rfl⟩
set_option maxHeartbeats 400000 in
theorem runpack_count (n b : Int) (a : Option Addr) (m c : Nat) (w : World) (h1 : 1 ≤ n) (h2 : n ≤ 65536) (hb : okSize b) (hm : ((m : Int) != (n + 8 * b - 1) / (8 * b)) = true) : Calls Try.prog 15 #[.int .i64 n, .slice a m c, .int .i64 b] w (NoWords 3 w) := by
  have hb1 : 128 ≤ b := by unfold okSize at hb; omega
  have hb2 : b ≤ 1024 := by unfold okSize at hb; omega
  go_enter Try.func15, Try.ntmps15
  go_wp2_with fail
  refine (domain_yes _ _ _ h1 h2 hb).mono ?_
  rintro e w' ⟨rfl, rfl⟩
  go_wp2_with fail
  refine (up_ok _ _ _ h1 h2 hb).mono ?_
  rintro e w' ⟨rfl, rfl⟩
  go_wp2_with fail
  go_ret3
  exact ⟨rfl, rfl⟩
set_option maxHeartbeats 1000000 in
set_option maxRecDepth 100000 in
theorem unpack_bad (n b : Int) (A c off g j : Nat) (bs : Nat → List Int) (w : World) (h1 : 1 ≤ n) (h2 : n ≤ 65536) (hb : okSize b) (hA : (n + 8 * b - 1) / (8 * b) = (A : Int)) (hg : g < w.heap.size)
    (hbs : ∀ i, i < A → ∃ x, w.cell? ⟨g, off + i, none⟩ = some x ∧ Rd .u8 w x (bs i)) (hj : j < A) (hgood : ∀ i, i < j → (bs i).length = 0 ∨ ((bs i).length : Int) = b) (hbad : (bs j).length ≠ 0 ∧ ((bs j).length : Int) ≠ b) (hm : A ≤ 65536) :
    Calls Try.prog 14 #[.int .i64 n, .slice (some ⟨g, off, none⟩) A c, .int .i64 b] w (NoWords 3 w) := by
  have hb1 : 128 ≤ b := by unfold okSize at hb; omega
  have hb2 : b ≤ 1024 := by unfold okSize at hb; omega
  have hq : ((A : Int) != (n + 8 * b - 1) / (8 * b)) = false := by rw [hA]; simp
  have HA := Lib.hid hA
  have Hbs := Lib.hid hbs
  have Hgood := Lib.hid hgood
  have Hbad := Lib.hid hbad
  clear hA hbs hgood hbad
  go_enter Try.func14, Try.ntmps14
  go_wp2_with fail
  refine (bitmapped_ok _ _ _ h1 h2 hb).mono ?_
  rintro e w' ⟨rfl, rfl⟩
  go_wp2_with fail
  refine (areas_ok _ _ _ h1 h2 hb).mono ?_
  rintro e w' ⟨rfl, rfl⟩
  go_wp2_with fail
  go_loop [10, 12, 30] (fun l _ i => (∃ lb : Bool, l = .bool lb) ∧ ∃ k : Nat, k ≤ j ∧ i = .int .i64 k) (fun l _ i => j - (intOf i).toNat)
  case atStart => exact ⟨⟨_, rfl⟩, 0, Nat.zero_le _, rfl⟩
  case round =>
    obtain ⟨hl, k, hk, rfl⟩ := hrel
    obtain ⟨x, hx, hr⟩ := Hbs.out k (by omega)
    obtain ⟨a', c', rfl⟩ := hr.slice
    obtain ⟨m, em⟩ : ∃ m, m = (bs k).length := ⟨_, rfl⟩
    rw [← em] at hx
    have Em := Lib.hid em
    clear em hr
    by_cases hlt : k < j
    · have hL := Hgood.out k hlt
      rw [← Em.out] at hL
      rcases hL with rfl | rfl
      all_goals
        obtain ⟨lb, rfl⟩ : ∃ lb : Bool, u10 = .bool lb := hl
        cases lb
        all_goals
          go_wp2
          go_round
          case rel => exact ⟨⟨_, rfl⟩, k + 1, by omega, by go_num⟩
          case measure => simp [intOf] <;> omega
    · obtain rfl : k = j := by omega
      have hL := Hbad.out
      rw [← Em.out] at hL
      have e1 : ((m : Int) == 0) = false := by simp; omega
      have e2 : ((m : Int) != 0) = true := by simp; omega
      have e3 : ((m : Int) != b) = true := by simp; omega
      clear hL
      obtain ⟨lb, rfl⟩ : ∃ lb : Bool, u10 = .bool lb := hl
      cases lb
      all_goals
        go_wp2
        go_ret3
        exact ⟨rfl, rfl⟩
set_option maxHeartbeats 1000000 in
set_option maxRecDepth 100000 in
theorem runpack_bad (n b : Int) (A c off g j : Nat) (bs : Nat → List Int) (w : World) (h1 : 1 ≤ n) (h2 : n ≤ 65536) (hb : okSize b) (hA : (n + 8 * b - 1) / (8 * b) = (A : Int)) (hg : g < w.heap.size)
    (hbs : ∀ i, i < A → ∃ x, w.cell? ⟨g, off + i, none⟩ = some x ∧ Rd .u8 w x (bs i)) (hj : j < A) (hgood : ∀ i, i < j → (bs i).length = 0 ∨ ((bs i).length : Int) = b) (hbad : (bs j).length ≠ 0 ∧ ((bs j).length : Int) ≠ b) (hm : A ≤ 65536) :
    Calls Try.prog 15 #[.int .i64 n, .slice (some ⟨g, off, none⟩) A c, .int .i64 b] w (NoWords 3 w) := by
  have hb1 : 128 ≤ b := by unfold okSize at hb; omega
  have hb2 : b ≤ 1024 := by unfold okSize at hb; omega
  have hq : ((A : Int) != (n + 8 * b - 1) / (8 * b)) = false := by rw [hA]; simp
  have HA := Lib.hid hA
  have Hbs := Lib.hid hbs
  have Hgood := Lib.hid hgood
  have Hbad := Lib.hid hbad
  clear hA hbs hgood hbad
  go_enter Try.func15, Try.ntmps15
  go_wp2_with fail
  refine (domain_yes _ _ _ h1 h2 hb).mono ?_
  rintro e w' ⟨rfl, rfl⟩
  go_wp2_with fail
  refine (up_ok _ _ _ h1 h2 hb).mono ?_
  rintro e w' ⟨rfl, rfl⟩
  go_wp2_with fail
  go_loop [10, 11] (fun _ i => ∃ k : Nat, k ≤ j ∧ i = .int .i64 k) (fun _ i => j - (intOf i).toNat)
  case atStart => exact ⟨0, Nat.zero_le _, rfl⟩
  case round =>
    obtain ⟨k, hk, rfl⟩ := hrel
    obtain ⟨x, hx, hr⟩ := Hbs.out k (by omega)
    obtain ⟨a', c', rfl⟩ := hr.slice
    obtain ⟨m, em⟩ : ∃ m, m = (bs k).length := ⟨_, rfl⟩
    rw [← em] at hx
    have Em := Lib.hid em
    clear em hr
    by_cases hlt : k < j
    · have hL := Hgood.out k hlt
      rw [← Em.out] at hL
      rcases hL with rfl | rfl
      all_goals
        go_wp2
        go_round
        case rel => exact ⟨k + 1, by omega, by go_num⟩
        case measure => simp [intOf] <;> omega
    · obtain rfl : k = j := by omega
      have hL := Hbad.out
      rw [← Em.out] at hL
      have e1 : ((m : Int) == 0) = false := by simp; omega
      have e2 : ((m : Int) != 0) = true := by simp; omega
      have e3 : ((m : Int) != b) = true := by simp; omega
      clear hL
      go_wp2
      go_ret3
      exact ⟨rfl, rfl⟩
end Go.Proofs.Ytjcinelcocmpnaa
