/- meta.Plan: what it answers. -/
import Derived.Test.YtjcinelcocmpnaaRows
import Derived.WalkKit
import Derived.WalkSpells
import Derived.WalkLawsBesides
import Derived.Deep.DeepCutAuto
import Derived.Lib.Hide
namespace Go.Proofs.Ytjcinelcocmpnaa
open Go.RowKit
def okSize (b : Int) : Prop := b = 128 ∨ b = 256 ∨ b = 512 ∨ b = 1024
set_option maxHeartbeats 400000 in
theorem sized_yes (b : Int) (w : World) (hb : okSize b) : Calls Try.prog 23 #[.int .i64 b] w fun e w' => e = .returned (.bool true) ∧ w = w' := by
  rcases hb with rfl | rfl | rfl | rfl
  all_goals
    go_enter Try.func23, Try.ntmps23
    go_wp2
    go_ret
    exact ⟨rfl, rfl⟩
set_option maxHeartbeats 400000 in
theorem sized_no (b : Int) (w : World) (hb : ¬ okSize b) : Calls Try.prog 23 #[.int .i64 b] w fun e w' => e = .returned (.bool false) ∧ w = w' := by
  unfold okSize at hb
  have h1 : (b == 128) = false := by simp; omega
  have h2 : (b == 256) = false := by simp; omega
  have h3 : (b == 512) = false := by simp; omega
  have h4 : (b == 1024) = false := by simp; omega
  go_enter Try.func23, Try.ntmps23
  go_wp2
  go_ret
  exact ⟨rfl, rfl⟩
set_option maxHeartbeats 400000 in
theorem areas_ok (a b : Int) (w : World) (h1 : 1 ≤ a) (h2 : a ≤ 65536) (hb : okSize b) : Calls Try.prog 25 #[.int .i64 a, .int .i64 b] w fun e w' => e = .returned (.int .i64 ((a + 8 * b - 1) / (8 * b))) ∧ w = w' := by
  rcases hb with rfl | rfl | rfl | rfl
  all_goals
    go_enter Try.func25, Try.ntmps25
    go_wp2
    go_ret
    exact ⟨rfl, rfl⟩
set_option maxHeartbeats 400000 in
set_option maxRecDepth 100000 in
theorem plan_4 (a b n m : Int) (w : World) (h1 : 1 ≤ a) (h2 : a ≤ 4096) (hb : okSize b) (h3 : 1 ≤ n) (h4 : n ≤ 4) (hm : (a + 8 * b - 1) / (8 * b) = m) :
    Calls Try.prog 10 #[.int .i64 a, .int .i64 b, .int .i64 n] w fun e w' => e = .returned (.tuple #[.agg #[.int .i64 a, .int .i64 b, .int .i64 n, .int .i64 a, .int .i64 m, .int .i64 (a + m), .int .i64 1, .int .i64 (a + m + 1), .int .i64 (a + m + 1 + 2)], .int .i64 0]) ∧ Below w.heap.size w w' := by
  have hm1 : 0 ≤ m := by rcases hb with rfl | rfl | rfl | rfl <;> omega
  have hm2 : m ≤ 4096 := by rcases hb with rfl | rfl | rfl | rfl <;> omega
  have H := Lib.hid hm
  clear hm
  go_enter Try.func10, Try.ntmps10
  go_wp2_with (first | (go_at_call 23; refine (sized_yes _ _ hb).mono ?_; rintro e w' ⟨rfl, rfl⟩) | (go_at_call 25; refine (areas_ok _ _ _ h1 (by omega) hb).mono ?_; rintro e w' ⟨rfl, rfl⟩; rw [H.out]))
  refine wp_loop_rounds 1 ?_
  rw [rounds_succ]
  go_wp2
  refine bodyPost_ret (v := .tuple #[.agg #[.int .i64 a, .int .i64 b, .int .i64 n, .int .i64 a, .int .i64 m, .int .i64 (a + m), .int .i64 1, .int .i64 (a + m + 1), .int .i64 (a + m + 1 + 2)], .int .i64 0]) (by simp [results, Try.results10, go_sem]) rfl ⟨rfl, ?_⟩
  exact ((Below.refl _ _).alloc (Nat.le_refl _) _).alloc (by simp) _
set_option maxHeartbeats 400000 in
set_option maxRecDepth 100000 in
theorem plan_8 (a b n m : Int) (w : World) (h1 : 1 ≤ a) (h2 : a ≤ 4096) (hb : okSize b) (h3 : 4 < n) (h4 : n ≤ 8) (hm : (a + 8 * b - 1) / (8 * b) = m) :
    Calls Try.prog 10 #[.int .i64 a, .int .i64 b, .int .i64 n] w fun e w' => e = .returned (.tuple #[.agg #[.int .i64 a, .int .i64 b, .int .i64 n, .int .i64 a, .int .i64 m, .int .i64 (a + m), .int .i64 2, .int .i64 (a + m + 2), .int .i64 (a + m + 2 + 2)], .int .i64 0]) ∧ Below w.heap.size w w' := by
  have hm1 : 0 ≤ m := by rcases hb with rfl | rfl | rfl | rfl <;> omega
  have hm2 : m ≤ 4096 := by rcases hb with rfl | rfl | rfl | rfl <;> omega
  have H := Lib.hid hm
  clear hm
  go_enter Try.func10, Try.ntmps10
  go_wp2_with (first | (go_at_call 23; refine (sized_yes _ _ hb).mono ?_; rintro e w' ⟨rfl, rfl⟩) | (go_at_call 25; refine (areas_ok _ _ _ h1 (by omega) hb).mono ?_; rintro e w' ⟨rfl, rfl⟩; rw [H.out]))
  refine wp_loop_rounds 2 ?_
  rw [rounds_succ]
  go_wp2
  rw [rounds_succ]
  go_wp2
  refine bodyPost_ret (v := .tuple #[.agg #[.int .i64 a, .int .i64 b, .int .i64 n, .int .i64 a, .int .i64 m, .int .i64 (a + m), .int .i64 2, .int .i64 (a + m + 2), .int .i64 (a + m + 2 + 2)], .int .i64 0]) (by simp [results, Try.results10, go_sem]) rfl ⟨rfl, ?_⟩
  exact ((Below.refl _ _).alloc (Nat.le_refl _) _).alloc (by simp) _
set_option maxHeartbeats 400000 in
set_option maxRecDepth 100000 in
theorem plan_16 (a b n m : Int) (w : World) (h1 : 1 ≤ a) (h2 : a ≤ 4096) (hb : okSize b) (h3 : 8 < n) (h4 : n ≤ 16) (hm : (a + 8 * b - 1) / (8 * b) = m) :
    Calls Try.prog 10 #[.int .i64 a, .int .i64 b, .int .i64 n] w fun e w' => e = .returned (.tuple #[.agg #[.int .i64 a, .int .i64 b, .int .i64 n, .int .i64 a, .int .i64 m, .int .i64 (a + m), .int .i64 4, .int .i64 (a + m + 4), .int .i64 (a + m + 4 + 2)], .int .i64 0]) ∧ Below w.heap.size w w' := by
  have hm1 : 0 ≤ m := by rcases hb with rfl | rfl | rfl | rfl <;> omega
  have hm2 : m ≤ 4096 := by rcases hb with rfl | rfl | rfl | rfl <;> omega
  have H := Lib.hid hm
  clear hm
  go_enter Try.func10, Try.ntmps10
  go_wp2_with (first | (go_at_call 23; refine (sized_yes _ _ hb).mono ?_; rintro e w' ⟨rfl, rfl⟩) | (go_at_call 25; refine (areas_ok _ _ _ h1 (by omega) hb).mono ?_; rintro e w' ⟨rfl, rfl⟩; rw [H.out]))
  refine wp_loop_rounds 3 ?_
  rw [rounds_succ]
  go_wp2
  rw [rounds_succ]
  go_wp2
  rw [rounds_succ]
  go_wp2
  refine bodyPost_ret (v := .tuple #[.agg #[.int .i64 a, .int .i64 b, .int .i64 n, .int .i64 a, .int .i64 m, .int .i64 (a + m), .int .i64 4, .int .i64 (a + m + 4), .int .i64 (a + m + 4 + 2)], .int .i64 0]) (by simp [results, Try.results10, go_sem]) rfl ⟨rfl, ?_⟩
  exact ((Below.refl _ _).alloc (Nat.le_refl _) _).alloc (by simp) _
set_option maxHeartbeats 400000 in
theorem rsizes_yes (b : Int) (w : World) (hb : okSize b) : Calls Try.prog 24 #[.int .i64 b] w fun e w' => e = .returned (.bool true) ∧ w = w' := by
  rcases hb with rfl | rfl | rfl | rfl
  all_goals
    go_enter Try.func24, Try.ntmps24
    go_wp2
    go_ret
    exact ⟨rfl, rfl⟩
set_option maxHeartbeats 400000 in
theorem rsizes_no (b : Int) (w : World) (hb : ¬ okSize b) : Calls Try.prog 24 #[.int .i64 b] w fun e w' => e = .returned (.bool false) ∧ w = w' := by
  unfold okSize at hb
  have h1 : (b == 128) = false := by simp; omega
  have h2 : (b == 256) = false := by simp; omega
  have h3 : (b == 512) = false := by simp; omega
  have h4 : (b == 1024) = false := by simp; omega
  go_enter Try.func24, Try.ntmps24
  go_wp2
  go_ret
  exact ⟨rfl, rfl⟩
set_option maxHeartbeats 400000 in
set_option maxRecDepth 100000 in
theorem plan_no0 (a b n : Int) (w : World) (h : a < 1) :
    Calls Try.prog 10 #[.int .i64 a, .int .i64 b, .int .i64 n] w fun e w' => e = .returned (.tuple #[.agg #[.int .i64 0, .int .i64 0, .int .i64 0, .int .i64 0, .int .i64 0, .int .i64 0, .int .i64 0, .int .i64 0, .int .i64 0], .int .i64 1]) ∧ Below w.heap.size w w' := by
  by_cases hb : okSize b
  · go_enter Try.func10, Try.ntmps10
    go_wp2_with (first | (go_at_call 23; refine (sized_yes _ _ hb).mono ?_; rintro e w' ⟨rfl, rfl⟩))
    refine bodyPost_ret (v := .tuple #[.agg #[.int .i64 0, .int .i64 0, .int .i64 0, .int .i64 0, .int .i64 0, .int .i64 0, .int .i64 0, .int .i64 0, .int .i64 0], .int .i64 1]) (by simp [results, Try.results10, go_sem]) rfl ⟨rfl, ?_⟩
    exact (Below.refl _ _).alloc (Nat.le_refl _) _
  · go_enter Try.func10, Try.ntmps10
    go_wp2_with (go_at_call 23; refine (sized_no _ _ hb).mono ?_; rintro e w' ⟨rfl, rfl⟩)
    refine bodyPost_ret (v := .tuple #[.agg #[.int .i64 0, .int .i64 0, .int .i64 0, .int .i64 0, .int .i64 0, .int .i64 0, .int .i64 0, .int .i64 0, .int .i64 0], .int .i64 1]) (by simp [results, Try.results10, go_sem]) rfl ⟨rfl, ?_⟩
    exact (Below.refl _ _).alloc (Nat.le_refl _) _
set_option maxHeartbeats 400000 in
set_option maxRecDepth 100000 in
theorem plan_no1 (a b n : Int) (w : World) (h0 : ¬ a < 1) (h : 4096 < a) :
    Calls Try.prog 10 #[.int .i64 a, .int .i64 b, .int .i64 n] w fun e w' => e = .returned (.tuple #[.agg #[.int .i64 0, .int .i64 0, .int .i64 0, .int .i64 0, .int .i64 0, .int .i64 0, .int .i64 0, .int .i64 0, .int .i64 0], .int .i64 1]) ∧ Below w.heap.size w w' := by
  by_cases hb : okSize b
  · go_enter Try.func10, Try.ntmps10
    go_wp2_with (first | (go_at_call 23; refine (sized_yes _ _ hb).mono ?_; rintro e w' ⟨rfl, rfl⟩))
    refine bodyPost_ret (v := .tuple #[.agg #[.int .i64 0, .int .i64 0, .int .i64 0, .int .i64 0, .int .i64 0, .int .i64 0, .int .i64 0, .int .i64 0, .int .i64 0], .int .i64 1]) (by simp [results, Try.results10, go_sem]) rfl ⟨rfl, ?_⟩
    exact (Below.refl _ _).alloc (Nat.le_refl _) _
  · go_enter Try.func10, Try.ntmps10
    go_wp2_with (go_at_call 23; refine (sized_no _ _ hb).mono ?_; rintro e w' ⟨rfl, rfl⟩)
    refine bodyPost_ret (v := .tuple #[.agg #[.int .i64 0, .int .i64 0, .int .i64 0, .int .i64 0, .int .i64 0, .int .i64 0, .int .i64 0, .int .i64 0, .int .i64 0], .int .i64 1]) (by simp [results, Try.results10, go_sem]) rfl ⟨rfl, ?_⟩
    exact (Below.refl _ _).alloc (Nat.le_refl _) _
set_option maxHeartbeats 400000 in
set_option maxRecDepth 100000 in
theorem plan_no2 (a b n : Int) (w : World) (h0 : 1 ≤ a) (h1 : a ≤ 4096) (h : ¬ okSize b) :
    Calls Try.prog 10 #[.int .i64 a, .int .i64 b, .int .i64 n] w fun e w' => e = .returned (.tuple #[.agg #[.int .i64 0, .int .i64 0, .int .i64 0, .int .i64 0, .int .i64 0, .int .i64 0, .int .i64 0, .int .i64 0, .int .i64 0], .int .i64 1]) ∧ Below w.heap.size w w' := by
  go_enter Try.func10, Try.ntmps10
  go_wp2_with (go_at_call 23; refine (sized_no _ _ h).mono ?_; rintro e w' ⟨rfl, rfl⟩)
  refine bodyPost_ret (v := .tuple #[.agg #[.int .i64 0, .int .i64 0, .int .i64 0, .int .i64 0, .int .i64 0, .int .i64 0, .int .i64 0, .int .i64 0, .int .i64 0], .int .i64 1]) (by simp [results, Try.results10, go_sem]) rfl ⟨rfl, ?_⟩
  exact (Below.refl _ _).alloc (Nat.le_refl _) _
set_option maxHeartbeats 400000 in
set_option maxRecDepth 100000 in
theorem plan_no3 (a b n : Int) (w : World) (h0 : 1 ≤ a) (h1 : a ≤ 4096) (hb : okSize b) (h : n < 1) :
    Calls Try.prog 10 #[.int .i64 a, .int .i64 b, .int .i64 n] w fun e w' => e = .returned (.tuple #[.agg #[.int .i64 0, .int .i64 0, .int .i64 0, .int .i64 0, .int .i64 0, .int .i64 0, .int .i64 0, .int .i64 0, .int .i64 0], .int .i64 1]) ∧ Below w.heap.size w w' := by
  go_enter Try.func10, Try.ntmps10
  go_wp2_with (first | (go_at_call 23; refine (sized_yes _ _ hb).mono ?_; rintro e w' ⟨rfl, rfl⟩))
  refine bodyPost_ret (v := .tuple #[.agg #[.int .i64 0, .int .i64 0, .int .i64 0, .int .i64 0, .int .i64 0, .int .i64 0, .int .i64 0, .int .i64 0, .int .i64 0], .int .i64 1]) (by simp [results, Try.results10, go_sem]) rfl ⟨rfl, ?_⟩
  exact (Below.refl _ _).alloc (Nat.le_refl _) _
set_option maxHeartbeats 400000 in
set_option maxRecDepth 100000 in
theorem plan_no4 (a b n : Int) (w : World) (h0 : 1 ≤ a) (h1 : a ≤ 4096) (hb : okSize b) (h' : ¬ n < 1) (h : 16 < n) :
    Calls Try.prog 10 #[.int .i64 a, .int .i64 b, .int .i64 n] w fun e w' => e = .returned (.tuple #[.agg #[.int .i64 0, .int .i64 0, .int .i64 0, .int .i64 0, .int .i64 0, .int .i64 0, .int .i64 0, .int .i64 0, .int .i64 0], .int .i64 1]) ∧ Below w.heap.size w w' := by
  go_enter Try.func10, Try.ntmps10
  go_wp2_with (first | (go_at_call 23; refine (sized_yes _ _ hb).mono ?_; rintro e w' ⟨rfl, rfl⟩))
  refine bodyPost_ret (v := .tuple #[.agg #[.int .i64 0, .int .i64 0, .int .i64 0, .int .i64 0, .int .i64 0, .int .i64 0, .int .i64 0, .int .i64 0, .int .i64 0], .int .i64 1]) (by simp [results, Try.results10, go_sem]) rfl ⟨rfl, ?_⟩
  exact (Below.refl _ _).alloc (Nat.le_refl _) _
set_option maxHeartbeats 400000 in
set_option maxRecDepth 100000 in
theorem rplan_no0 (a b n : Int) (w : World) (h : a < 1) :
    Calls Try.prog 11 #[.int .i64 a, .int .i64 b, .int .i64 n] w fun e w' => e = .returned (.tuple #[.agg #[.int .i64 0, .int .i64 0, .int .i64 0, .int .i64 0, .int .i64 0, .int .i64 0, .int .i64 0, .int .i64 0, .int .i64 0], .int .i64 1]) ∧ Below w.heap.size w w' := by
  by_cases hb : okSize b
  · go_enter Try.func11, Try.ntmps11
    go_wp2_with (first | (go_at_call 24; refine (rsizes_yes _ _ hb).mono ?_; rintro e w' ⟨rfl, rfl⟩))
    refine bodyPost_ret (v := .tuple #[.agg #[.int .i64 0, .int .i64 0, .int .i64 0, .int .i64 0, .int .i64 0, .int .i64 0, .int .i64 0, .int .i64 0, .int .i64 0], .int .i64 1]) (by simp [results, Try.results11, go_sem]) rfl ⟨rfl, ?_⟩
    exact (Below.refl _ _).alloc (Nat.le_refl _) _
  · go_enter Try.func11, Try.ntmps11
    go_wp2_with (go_at_call 24; refine (rsizes_no _ _ hb).mono ?_; rintro e w' ⟨rfl, rfl⟩)
    refine bodyPost_ret (v := .tuple #[.agg #[.int .i64 0, .int .i64 0, .int .i64 0, .int .i64 0, .int .i64 0, .int .i64 0, .int .i64 0, .int .i64 0, .int .i64 0], .int .i64 1]) (by simp [results, Try.results11, go_sem]) rfl ⟨rfl, ?_⟩
    exact (Below.refl _ _).alloc (Nat.le_refl _) _
set_option maxHeartbeats 400000 in
set_option maxRecDepth 100000 in
theorem rplan_no1 (a b n : Int) (w : World) (h0 : ¬ a < 1) (h : 4096 < a) :
    Calls Try.prog 11 #[.int .i64 a, .int .i64 b, .int .i64 n] w fun e w' => e = .returned (.tuple #[.agg #[.int .i64 0, .int .i64 0, .int .i64 0, .int .i64 0, .int .i64 0, .int .i64 0, .int .i64 0, .int .i64 0, .int .i64 0], .int .i64 1]) ∧ Below w.heap.size w w' := by
  by_cases hb : okSize b
  · go_enter Try.func11, Try.ntmps11
    go_wp2_with (first | (go_at_call 24; refine (rsizes_yes _ _ hb).mono ?_; rintro e w' ⟨rfl, rfl⟩))
    refine bodyPost_ret (v := .tuple #[.agg #[.int .i64 0, .int .i64 0, .int .i64 0, .int .i64 0, .int .i64 0, .int .i64 0, .int .i64 0, .int .i64 0, .int .i64 0], .int .i64 1]) (by simp [results, Try.results11, go_sem]) rfl ⟨rfl, ?_⟩
    exact (Below.refl _ _).alloc (Nat.le_refl _) _
  · go_enter Try.func11, Try.ntmps11
    go_wp2_with (go_at_call 24; refine (rsizes_no _ _ hb).mono ?_; rintro e w' ⟨rfl, rfl⟩)
    refine bodyPost_ret (v := .tuple #[.agg #[.int .i64 0, .int .i64 0, .int .i64 0, .int .i64 0, .int .i64 0, .int .i64 0, .int .i64 0, .int .i64 0, .int .i64 0], .int .i64 1]) (by simp [results, Try.results11, go_sem]) rfl ⟨rfl, ?_⟩
    exact (Below.refl _ _).alloc (Nat.le_refl _) _
set_option maxHeartbeats 400000 in
set_option maxRecDepth 100000 in
theorem rplan_no2 (a b n : Int) (w : World) (h0 : 1 ≤ a) (h1 : a ≤ 4096) (h : ¬ okSize b) :
    Calls Try.prog 11 #[.int .i64 a, .int .i64 b, .int .i64 n] w fun e w' => e = .returned (.tuple #[.agg #[.int .i64 0, .int .i64 0, .int .i64 0, .int .i64 0, .int .i64 0, .int .i64 0, .int .i64 0, .int .i64 0, .int .i64 0], .int .i64 1]) ∧ Below w.heap.size w w' := by
  go_enter Try.func11, Try.ntmps11
  go_wp2_with (go_at_call 24; refine (rsizes_no _ _ h).mono ?_; rintro e w' ⟨rfl, rfl⟩)
  refine bodyPost_ret (v := .tuple #[.agg #[.int .i64 0, .int .i64 0, .int .i64 0, .int .i64 0, .int .i64 0, .int .i64 0, .int .i64 0, .int .i64 0, .int .i64 0], .int .i64 1]) (by simp [results, Try.results11, go_sem]) rfl ⟨rfl, ?_⟩
  exact (Below.refl _ _).alloc (Nat.le_refl _) _
set_option maxHeartbeats 400000 in
set_option maxRecDepth 100000 in
theorem rplan_no3 (a b n : Int) (w : World) (h0 : 1 ≤ a) (h1 : a ≤ 4096) (hb : okSize b) (h : n < 1) :
    Calls Try.prog 11 #[.int .i64 a, .int .i64 b, .int .i64 n] w fun e w' => e = .returned (.tuple #[.agg #[.int .i64 0, .int .i64 0, .int .i64 0, .int .i64 0, .int .i64 0, .int .i64 0, .int .i64 0, .int .i64 0, .int .i64 0], .int .i64 1]) ∧ Below w.heap.size w w' := by
  go_enter Try.func11, Try.ntmps11
  go_wp2_with (first | (go_at_call 24; refine (rsizes_yes _ _ hb).mono ?_; rintro e w' ⟨rfl, rfl⟩))
  refine bodyPost_ret (v := .tuple #[.agg #[.int .i64 0, .int .i64 0, .int .i64 0, .int .i64 0, .int .i64 0, .int .i64 0, .int .i64 0, .int .i64 0, .int .i64 0], .int .i64 1]) (by simp [results, Try.results11, go_sem]) rfl ⟨rfl, ?_⟩
  exact (Below.refl _ _).alloc (Nat.le_refl _) _
set_option maxHeartbeats 400000 in
set_option maxRecDepth 100000 in
theorem rplan_no4 (a b n : Int) (w : World) (h0 : 1 ≤ a) (h1 : a ≤ 4096) (hb : okSize b) (h' : ¬ n < 1) (h : 16 < n) :
    Calls Try.prog 11 #[.int .i64 a, .int .i64 b, .int .i64 n] w fun e w' => e = .returned (.tuple #[.agg #[.int .i64 0, .int .i64 0, .int .i64 0, .int .i64 0, .int .i64 0, .int .i64 0, .int .i64 0, .int .i64 0, .int .i64 0], .int .i64 1]) ∧ Below w.heap.size w w' := by
  go_enter Try.func11, Try.ntmps11
  go_wp2_with (first | (go_at_call 24; refine (rsizes_yes _ _ hb).mono ?_; rintro e w' ⟨rfl, rfl⟩))
  refine bodyPost_ret (v := .tuple #[.agg #[.int .i64 0, .int .i64 0, .int .i64 0, .int .i64 0, .int .i64 0, .int .i64 0, .int .i64 0, .int .i64 0, .int .i64 0], .int .i64 1]) (by simp [results, Try.results11, go_sem]) rfl ⟨rfl, ?_⟩
  exact (Below.refl _ _).alloc (Nat.le_refl _) _
set_option maxHeartbeats 400000 in
theorem up_ok (a b : Int) (w : World) (h1 : 1 ≤ a) (h2 : a ≤ 65536) (hb : okSize b) : Calls Try.prog 26 #[.int .i64 a, .int .i64 (8 * b)] w fun e w' => e = .returned (.int .i64 ((a + 8 * b - 1) / (8 * b))) ∧ w = w' := by
  rcases hb with rfl | rfl | rfl | rfl
  all_goals
    go_enter Try.func26, Try.ntmps26
    go_wp2
    go_ret
    exact ⟨rfl, rfl⟩
set_option maxHeartbeats 400000 in
set_option maxRecDepth 100000 in
theorem rplan_4 (a b n m : Int) (w : World) (h1 : 1 ≤ a) (h2 : a ≤ 4096) (hb : okSize b) (h3 : 1 ≤ n) (h4 : n ≤ 4) (hm : (a + 8 * b - 1) / (8 * b) = m) :
    Calls Try.prog 11 #[.int .i64 a, .int .i64 b, .int .i64 n] w fun e w' => e = .returned (.tuple #[.agg #[.int .i64 a, .int .i64 b, .int .i64 n, .int .i64 a, .int .i64 m, .int .i64 (a + m), .int .i64 1, .int .i64 (a + m + 1), .int .i64 (a + m + 1 + 2)], .int .i64 0]) ∧ Below w.heap.size w w' := by
  have hm1 : 0 ≤ m := by rcases hb with rfl | rfl | rfl | rfl <;> omega
  have hm2 : m ≤ 4096 := by rcases hb with rfl | rfl | rfl | rfl <;> omega
  have hb1 : 128 ≤ b := by rcases hb with rfl | rfl | rfl | rfl <;> omega
  have hb2 : b ≤ 1024 := by rcases hb with rfl | rfl | rfl | rfl <;> omega
  have H := Lib.hid hm
  clear hm
  go_enter Try.func11, Try.ntmps11
  go_wp2_with (first | (go_at_call 24; refine (rsizes_yes _ _ hb).mono ?_; rintro e w' ⟨rfl, rfl⟩) | (go_at_call 26; refine (up_ok _ _ _ h1 (by omega) hb).mono ?_; rintro e w' ⟨rfl, rfl⟩; rw [H.out]))
  refine bodyPost_ret (v := .tuple #[.agg #[.int .i64 a, .int .i64 b, .int .i64 n, .int .i64 a, .int .i64 m, .int .i64 (a + m), .int .i64 1, .int .i64 (a + m + 1), .int .i64 (a + m + 1 + 2)], .int .i64 0]) (by simp [results, Try.results11, go_sem]) rfl ⟨rfl, ?_⟩
  exact ((Below.refl _ _).alloc (Nat.le_refl _) _).alloc (by simp) _
set_option maxHeartbeats 400000 in
set_option maxRecDepth 100000 in
theorem rplan_8 (a b n m : Int) (w : World) (h1 : 1 ≤ a) (h2 : a ≤ 4096) (hb : okSize b) (h3 : 4 < n) (h4 : n ≤ 8) (hm : (a + 8 * b - 1) / (8 * b) = m) :
    Calls Try.prog 11 #[.int .i64 a, .int .i64 b, .int .i64 n] w fun e w' => e = .returned (.tuple #[.agg #[.int .i64 a, .int .i64 b, .int .i64 n, .int .i64 a, .int .i64 m, .int .i64 (a + m), .int .i64 2, .int .i64 (a + m + 2), .int .i64 (a + m + 2 + 2)], .int .i64 0]) ∧ Below w.heap.size w w' := by
  have hm1 : 0 ≤ m := by rcases hb with rfl | rfl | rfl | rfl <;> omega
  have hm2 : m ≤ 4096 := by rcases hb with rfl | rfl | rfl | rfl <;> omega
  have hb1 : 128 ≤ b := by rcases hb with rfl | rfl | rfl | rfl <;> omega
  have hb2 : b ≤ 1024 := by rcases hb with rfl | rfl | rfl | rfl <;> omega
  have H := Lib.hid hm
  clear hm
  go_enter Try.func11, Try.ntmps11
  go_wp2_with (first | (go_at_call 24; refine (rsizes_yes _ _ hb).mono ?_; rintro e w' ⟨rfl, rfl⟩) | (go_at_call 26; refine (up_ok _ _ _ h1 (by omega) hb).mono ?_; rintro e w' ⟨rfl, rfl⟩; rw [H.out]))
  refine bodyPost_ret (v := .tuple #[.agg #[.int .i64 a, .int .i64 b, .int .i64 n, .int .i64 a, .int .i64 m, .int .i64 (a + m), .int .i64 2, .int .i64 (a + m + 2), .int .i64 (a + m + 2 + 2)], .int .i64 0]) (by simp [results, Try.results11, go_sem]) rfl ⟨rfl, ?_⟩
  exact ((Below.refl _ _).alloc (Nat.le_refl _) _).alloc (by simp) _
set_option maxHeartbeats 400000 in
set_option maxRecDepth 100000 in
theorem rplan_16 (a b n m : Int) (w : World) (h1 : 1 ≤ a) (h2 : a ≤ 4096) (hb : okSize b) (h3 : 8 < n) (h4 : n ≤ 16) (hm : (a + 8 * b - 1) / (8 * b) = m) :
    Calls Try.prog 11 #[.int .i64 a, .int .i64 b, .int .i64 n] w fun e w' => e = .returned (.tuple #[.agg #[.int .i64 a, .int .i64 b, .int .i64 n, .int .i64 a, .int .i64 m, .int .i64 (a + m), .int .i64 4, .int .i64 (a + m + 4), .int .i64 (a + m + 4 + 2)], .int .i64 0]) ∧ Below w.heap.size w w' := by
  have hm1 : 0 ≤ m := by rcases hb with rfl | rfl | rfl | rfl <;> omega
  have hm2 : m ≤ 4096 := by rcases hb with rfl | rfl | rfl | rfl <;> omega
  have hb1 : 128 ≤ b := by rcases hb with rfl | rfl | rfl | rfl <;> omega
  have hb2 : b ≤ 1024 := by rcases hb with rfl | rfl | rfl | rfl <;> omega
  have H := Lib.hid hm
  clear hm
  go_enter Try.func11, Try.ntmps11
  go_wp2_with (first | (go_at_call 24; refine (rsizes_yes _ _ hb).mono ?_; rintro e w' ⟨rfl, rfl⟩) | (go_at_call 26; refine (up_ok _ _ _ h1 (by omega) hb).mono ?_; rintro e w' ⟨rfl, rfl⟩; rw [H.out]))
  refine bodyPost_ret (v := .tuple #[.agg #[.int .i64 a, .int .i64 b, .int .i64 n, .int .i64 a, .int .i64 m, .int .i64 (a + m), .int .i64 4, .int .i64 (a + m + 4), .int .i64 (a + m + 4 + 2)], .int .i64 0]) (by simp [results, Try.results11, go_sem]) rfl ⟨rfl, ?_⟩
  exact ((Below.refl _ _).alloc (Nat.le_refl _) _).alloc (by simp) _
end Go.Proofs.Ytjcinelcocmpnaa
