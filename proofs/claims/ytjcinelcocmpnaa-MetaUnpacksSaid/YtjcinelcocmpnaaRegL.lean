/- disk.New where it may be had; the law MetaRegions. -/
import Derived.Test.YtjcinelcocmpnaaPlanL
import Derived.Deep.OwnRows
namespace Go.Proofs.Ytjcinelcocmpnaa
open Go.RowKit
theorem dn_info5 : (Try.prog.info? 5).map (fun i => (i.zero, i.size, i.bytes)) = some (some (.int .u8 0), 1, 1) := by kernel_rfl
def IsSome (w : World) (e : Ending) (w' : World) : Prop := (∃ ad, e = .returned (.tuple #[.pointer (some ad), .int .i64 0])) ∧ Below w.heap.size w w'
set_option maxHeartbeats 400000 in
set_option maxRecDepth 100000 in
theorem disk_new_128 (a : Int) (w : World) (h1 : 1 ≤ a) (h2 : a ≤ 8192) : Calls Try.prog 19 #[.int .i64 a, .int .i64 128] w (IsSome w) := by
  have hmm := @run_makeMap Try.prog
  obtain ⟨n, rfl⟩ := Int.eq_ofNat_of_zero_le (show 0 ≤ a by omega)
  have hmk := fun w => run_make_row' (P := Try.prog) 49 5 (.int .u8 0) 1 Try.underlying49 dn_info5 rfl .i64 .i64 (n * 128) (by omega) (by omega) w
  simp only [Int.natCast_mul, Int.cast_ofNat_Int] at hmk
  go_enter Try.func19, Try.ntmps19
  go_wp2
  go_ret2
  refine ⟨⟨_, rfl⟩, ?_⟩
  exact (((((Below.refl _ _).alloc (Nat.le_refl _) _).alloc (by simp) _).alloc (by simp; omega) _).alloc (by simp; omega) _).alloc (by simp; omega) _ |>.alloc (by simp; omega) _
set_option maxHeartbeats 400000 in
set_option maxRecDepth 100000 in
theorem disk_new_256 (a : Int) (w : World) (h1 : 1 ≤ a) (h2 : a ≤ 8192) : Calls Try.prog 19 #[.int .i64 a, .int .i64 256] w (IsSome w) := by
  have hmm := @run_makeMap Try.prog
  obtain ⟨n, rfl⟩ := Int.eq_ofNat_of_zero_le (show 0 ≤ a by omega)
  have hmk := fun w => run_make_row' (P := Try.prog) 49 5 (.int .u8 0) 1 Try.underlying49 dn_info5 rfl .i64 .i64 (n * 256) (by omega) (by omega) w
  simp only [Int.natCast_mul, Int.cast_ofNat_Int] at hmk
  go_enter Try.func19, Try.ntmps19
  go_wp2
  go_ret2
  refine ⟨⟨_, rfl⟩, ?_⟩
  exact (((((Below.refl _ _).alloc (Nat.le_refl _) _).alloc (by simp) _).alloc (by simp; omega) _).alloc (by simp; omega) _).alloc (by simp; omega) _ |>.alloc (by simp; omega) _
set_option maxHeartbeats 400000 in
set_option maxRecDepth 100000 in
theorem disk_new_512 (a : Int) (w : World) (h1 : 1 ≤ a) (h2 : a ≤ 8192) : Calls Try.prog 19 #[.int .i64 a, .int .i64 512] w (IsSome w) := by
  have hmm := @run_makeMap Try.prog
  obtain ⟨n, rfl⟩ := Int.eq_ofNat_of_zero_le (show 0 ≤ a by omega)
  have hmk := fun w => run_make_row' (P := Try.prog) 49 5 (.int .u8 0) 1 Try.underlying49 dn_info5 rfl .i64 .i64 (n * 512) (by omega) (by omega) w
  simp only [Int.natCast_mul, Int.cast_ofNat_Int] at hmk
  go_enter Try.func19, Try.ntmps19
  go_wp2
  go_ret2
  refine ⟨⟨_, rfl⟩, ?_⟩
  exact (((((Below.refl _ _).alloc (Nat.le_refl _) _).alloc (by simp) _).alloc (by simp; omega) _).alloc (by simp; omega) _).alloc (by simp; omega) _ |>.alloc (by simp; omega) _
set_option maxHeartbeats 400000 in
set_option maxRecDepth 100000 in
theorem disk_new_1024 (a : Int) (w : World) (h1 : 1 ≤ a) (h2 : a ≤ 8192) : Calls Try.prog 19 #[.int .i64 a, .int .i64 1024] w (IsSome w) := by
  have hmm := @run_makeMap Try.prog
  obtain ⟨n, rfl⟩ := Int.eq_ofNat_of_zero_le (show 0 ≤ a by omega)
  have hmk := fun w => run_make_row' (P := Try.prog) 49 5 (.int .u8 0) 1 Try.underlying49 dn_info5 rfl .i64 .i64 (n * 1024) (by omega) (by omega) w
  simp only [Int.natCast_mul, Int.cast_ofNat_Int] at hmk
  go_enter Try.func19, Try.ntmps19
  go_wp2
  go_ret2
  refine ⟨⟨_, rfl⟩, ?_⟩
  exact (((((Below.refl _ _).alloc (Nat.le_refl _) _).alloc (by simp) _).alloc (by simp; omega) _).alloc (by simp; omega) _).alloc (by simp; omega) _ |>.alloc (by simp; omega) _
theorem disk_new_ok (a b : Int) (w : World) (h1 : 1 ≤ a) (h2 : a ≤ 8192) (hb : okSize b) : Calls Try.prog 19 #[.int .i64 a, .int .i64 b] w (IsSome w) := by
  rcases hb with rfl | rfl | rfl | rfl
  · exact disk_new_128 a w h1 h2
  · exact disk_new_256 a w h1 h2
  · exact disk_new_512 a w h1 h2
  · exact disk_new_1024 a w h1 h2
set_option maxHeartbeats 400000 in
theorem lsized_yes (b : Int) (w : World) (hb : okSize b) : Calls Try.prog 18 #[.int .i64 b] w fun e w' => e = .returned (.bool true) ∧ w = w' := by
  rcases hb with rfl | rfl | rfl | rfl
  all_goals
    go_enter Try.func18, Try.ntmps18
    go_wp2
    go_ret
    exact ⟨rfl, rfl⟩
set_option maxHeartbeats 400000 in
theorem lsized_no (b : Int) (w : World) (hb : ¬ okSize b) : Calls Try.prog 18 #[.int .i64 b] w fun e w' => e = .returned (.bool false) ∧ w = w' := by
  unfold okSize at hb
  have h1 : (b == 128) = false := by simp; omega
  have h2 : (b == 256) = false := by simp; omega
  have h3 : (b == 512) = false := by simp; omega
  have h4 : (b == 1024) = false := by simp; omega
  go_enter Try.func18, Try.ntmps18
  go_wp2
  go_ret
  exact ⟨rfl, rfl⟩
set_option maxHeartbeats 400000 in
theorem area_ok (i b : Int) (w : World) (h1 : 0 ≤ i) (h2 : i < 65536) (hb : okSize b) : Calls Try.prog 8 #[.int .i64 i, .int .i64 b] w fun e w' => e = .returned (.tuple #[.int .i64 (i / (8 * b)), .int .i64 0]) ∧ w = w' := by
  rcases hb with rfl | rfl | rfl | rfl
  all_goals
    go_enter Try.func8, Try.ntmps8
    go_wp2_with (go_at_call 23; refine (sized_yes _ _ (by simp [okSize])).mono ?_; rintro e w' ⟨rfl, rfl⟩)
    go_ret2
    exact ⟨rfl, rfl⟩
def DoneTrue (w : World) (e : Ending) (w' : World) : Prop := e = .returned (.bool true) ∧ Below w.heap.size w w'
set_option maxHeartbeats 400000 in
set_option maxRecDepth 100000 in
theorem regions_no (a b n : Int) (w : World) (q : Bool) (hq : ∀ w : World, Calls Try.prog 18 #[.int .i64 b] w fun e w' => e = .returned (.bool q) ∧ w = w')
    (hP : ∀ w : World, Calls Try.prog 10 #[.int .i64 a, .int .i64 b, .int .i64 n] w fun e w' => e = .returned (.tuple #[.agg #[.int .i64 0, .int .i64 0, .int .i64 0, .int .i64 0, .int .i64 0, .int .i64 0, .int .i64 0, .int .i64 0, .int .i64 0], .int .i64 1]) ∧ Below w.heap.size w w')
    (hno : (!q || decide (a < 1) || decide (4096 < a) || decide (n < 1) || decide (16 < n)) = true) :
    Calls Try.prog 6 #[.int .i64 a, .int .i64 b, .int .i64 n] w (DoneTrue w) := by
  have HP := Lib.hid hP
  have HQ := Lib.hid hq
  clear hP hq
  go_enter Try.func6, Try.ntmps6
  go_wp2_with fail
  refine (HP.out _).mono ?_
  rintro e w1 ⟨rfl, hb1⟩
  go_wp2_with fail
  refine (HQ.out _).mono ?_
  rintro e w2 ⟨rfl, rfl⟩
  cases q
  · go_wp2
    go_ret
    exact ⟨rfl, hb1.alloc hb1.size _⟩
  · by_cases h1 : a < 1
    · go_wp2
      go_ret
      exact ⟨rfl, hb1.alloc hb1.size _⟩
    · by_cases h2 : 4096 < a
      · go_wp2
        go_ret
        exact ⟨rfl, hb1.alloc hb1.size _⟩
      · by_cases h3 : n < 1
        · go_wp2
          go_ret
          exact ⟨rfl, hb1.alloc hb1.size _⟩
        · have h4 : 16 < n := by simpa [h1, h2, h3] using hno
          go_wp2
          go_ret
          exact ⟨rfl, hb1.alloc hb1.size _⟩
set_option maxHeartbeats 1000000 in
set_option maxRecDepth 100000 in
theorem regions_4 (a b n : Int) (w : World) (h1 : 1 ≤ a) (h2 : a ≤ 4096) (hb : okSize b) (h3 : 1 ≤ n) (h4 : n ≤ 4) :
    Calls Try.prog 6 #[.int .i64 a, .int .i64 b, .int .i64 n] w (DoneTrue w) := by
  obtain ⟨m, hm⟩ : ∃ m, (a + 8 * b - 1) / (8 * b) = m := ⟨_, rfl⟩
  have hm1 : 1 ≤ m := by rcases hb with rfl | rfl | rfl | rfl <;> omega
  have hm2 : m ≤ 4 := by rcases hb with rfl | rfl | rfl | rfl <;> omega
  have hl : (a - 1) / (8 * b) = m - 1 := by rcases hb with rfl | rfl | rfl | rfl <;> omega
  have HM := Lib.hid hm
  have HL := Lib.hid hl
  clear hm hl
  go_enter Try.func6, Try.ntmps6
  go_wp2_with fail
  refine (plan_4 a b n m _ h1 h2 hb h3 h4 HM.out).mono ?_
  rintro e w1 ⟨rfl, hb1⟩
  go_wp2_with fail
  refine (lsized_yes _ _ hb).mono ?_
  rintro e w2 ⟨rfl, rfl⟩
  go_wp2_with fail
  refine (area_ok (a - 1) b _ (by omega) (by omega) hb).mono ?_
  rintro e w2 ⟨rfl, rfl⟩
  rw [HL.out]
  go_wp2_with fail
  refine (disk_new_ok _ b _ (by omega) (by omega) hb).mono ?_
  rintro e w3 ⟨⟨ad, rfl⟩, hb3⟩
  go_wp2
  go_ret
  exact ⟨rfl, (hb1.alloc hb1.size _).trans (hb3.mono (by have := hb1.size; simp; omega))⟩
set_option maxHeartbeats 1000000 in
set_option maxRecDepth 100000 in
theorem regions_8 (a b n : Int) (w : World) (h1 : 1 ≤ a) (h2 : a ≤ 4096) (hb : okSize b) (h3 : 4 < n) (h4 : n ≤ 8) :
    Calls Try.prog 6 #[.int .i64 a, .int .i64 b, .int .i64 n] w (DoneTrue w) := by
  obtain ⟨m, hm⟩ : ∃ m, (a + 8 * b - 1) / (8 * b) = m := ⟨_, rfl⟩
  have hm1 : 1 ≤ m := by rcases hb with rfl | rfl | rfl | rfl <;> omega
  have hm2 : m ≤ 4 := by rcases hb with rfl | rfl | rfl | rfl <;> omega
  have hl : (a - 1) / (8 * b) = m - 1 := by rcases hb with rfl | rfl | rfl | rfl <;> omega
  have HM := Lib.hid hm
  have HL := Lib.hid hl
  clear hm hl
  go_enter Try.func6, Try.ntmps6
  go_wp2_with fail
  refine (plan_8 a b n m _ h1 h2 hb h3 h4 HM.out).mono ?_
  rintro e w1 ⟨rfl, hb1⟩
  go_wp2_with fail
  refine (lsized_yes _ _ hb).mono ?_
  rintro e w2 ⟨rfl, rfl⟩
  go_wp2_with fail
  refine (area_ok (a - 1) b _ (by omega) (by omega) hb).mono ?_
  rintro e w2 ⟨rfl, rfl⟩
  rw [HL.out]
  go_wp2_with fail
  refine (disk_new_ok _ b _ (by omega) (by omega) hb).mono ?_
  rintro e w3 ⟨⟨ad, rfl⟩, hb3⟩
  go_wp2
  go_ret
  exact ⟨rfl, (hb1.alloc hb1.size _).trans (hb3.mono (by have := hb1.size; simp; omega))⟩
set_option maxHeartbeats 1000000 in
set_option maxRecDepth 100000 in
theorem regions_16 (a b n : Int) (w : World) (h1 : 1 ≤ a) (h2 : a ≤ 4096) (hb : okSize b) (h3 : 8 < n) (h4 : n ≤ 16) :
    Calls Try.prog 6 #[.int .i64 a, .int .i64 b, .int .i64 n] w (DoneTrue w) := by
  obtain ⟨m, hm⟩ : ∃ m, (a + 8 * b - 1) / (8 * b) = m := ⟨_, rfl⟩
  have hm1 : 1 ≤ m := by rcases hb with rfl | rfl | rfl | rfl <;> omega
  have hm2 : m ≤ 4 := by rcases hb with rfl | rfl | rfl | rfl <;> omega
  have hl : (a - 1) / (8 * b) = m - 1 := by rcases hb with rfl | rfl | rfl | rfl <;> omega
  have HM := Lib.hid hm
  have HL := Lib.hid hl
  clear hm hl
  go_enter Try.func6, Try.ntmps6
  go_wp2_with fail
  refine (plan_16 a b n m _ h1 h2 hb h3 h4 HM.out).mono ?_
  rintro e w1 ⟨rfl, hb1⟩
  go_wp2_with fail
  refine (lsized_yes _ _ hb).mono ?_
  rintro e w2 ⟨rfl, rfl⟩
  go_wp2_with fail
  refine (area_ok (a - 1) b _ (by omega) (by omega) hb).mono ?_
  rintro e w2 ⟨rfl, rfl⟩
  rw [HL.out]
  go_wp2_with fail
  refine (disk_new_ok _ b _ (by omega) (by omega) hb).mono ?_
  rintro e w3 ⟨⟨ad, rfl⟩, hb3⟩
  go_wp2
  go_ret
  exact ⟨rfl, (hb1.alloc hb1.size _).trans (hb3.mono (by have := hb1.size; simp; omega))⟩
theorem regions_law (a b n : Int) (w : World) : Calls Try.prog 6 #[.int .i64 a, .int .i64 b, .int .i64 n] w (DoneTrue w) := by
  by_cases hb : okSize b
  · by_cases h1 : a < 1
    · exact regions_no a b n w true (fun w => lsized_yes b w hb) (fun w => plan_no0 a b n w h1) (by simp [h1])
    by_cases h2 : 4096 < a
    · exact regions_no a b n w true (fun w => lsized_yes b w hb) (fun w => plan_no1 a b n w h1 h2) (by simp [h2])
    by_cases h3 : n < 1
    · exact regions_no a b n w true (fun w => lsized_yes b w hb) (fun w => plan_no3 a b n w (by omega) (by omega) hb h3) (by simp [h3])
    by_cases h4 : 16 < n
    · exact regions_no a b n w true (fun w => lsized_yes b w hb) (fun w => plan_no4 a b n w (by omega) (by omega) hb h3 h4) (by simp [h4])
    by_cases h5 : n ≤ 4
    · exact regions_4 a b n w (by omega) (by omega) hb (by omega) h5
    by_cases h6 : n ≤ 8
    · exact regions_8 a b n w (by omega) (by omega) hb (by omega) h6
    exact regions_16 a b n w (by omega) (by omega) hb (by omega) (by omega)
  · refine regions_no a b n w false (fun w => lsized_no b w hb) (fun w => ?_) (by simp)
    by_cases h1 : a < 1
    · exact plan_no0 a b n w h1
    by_cases h2 : 4096 < a
    · exact plan_no1 a b n w h1 h2
    exact plan_no2 a b n w (by omega) (by omega) hb
end Go.Proofs.Ytjcinelcocmpnaa
