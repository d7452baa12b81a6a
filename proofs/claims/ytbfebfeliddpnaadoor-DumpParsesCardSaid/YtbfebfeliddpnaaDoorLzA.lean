/- Two lists held against each other, element by element. -/
import Derived.Test.YtbfebfeliddpnaaDoorRnM
namespace Go.Proofs.YtbfebfeliddpnaaDoor
open Go.RowKit
set_option linter.unusedVariables false
set_option linter.unusedSimpArgs false
/-- It tells r; nothing is written. -/
def SameP (w : World) (r : Bool) (e : Ending) (w' : World) : Prop := ∃ n, e = .returned (.bool r) ∧ w' = w.drewN n
theorem same_quiet {P : Program} {f : FuncId} {args : Array Value} {w : World} {a n : Nat} {r : Bool} (h : Calls P f args (w.drewN (a + n)) (SameP (w.drewN (a + n)) r)) :
    Calls P f args (w.drewN (a + n)) fun e w'' => e = .returned (.bool r) ∧ ∃ m, w'' = w.drewN (a + m) :=
  h.mono fun _ _ ⟨m, he, hm⟩ => ⟨he, n + m, by rw [hm, World.drewN_drewN, Nat.add_assoc]⟩
theorem drewN_two (w : World) (a b : Nat) : (w.drewN a).drewN b = w.drewN (a + b) := by simp [World.drewN, Nat.add_assoc]

set_option maxHeartbeats 1000000 in
theorem sameW_len (va vb : Value) (xs ys : List Int) (w : World) (hA : Rd .u64 w va xs) (hB : Rd .u64 w vb ys) (hl : xs.length ≠ ys.length) (hm1 : xs.length ≤ maxLen) (hm2 : ys.length ≤ maxLen) :
    Calls Tryd.prog 25 #[va, vb] w (SameP w false) := by
  obtain ⟨a, c, rfl⟩ := hA.slice
  obtain ⟨b, d, rfl⟩ := hB.slice
  unfold maxLen at hm1 hm2
  have h1 : ((xs.length : Int) != ys.length) = true := by simp; omega
  clear hA hB
  go_enter Tryd.func25, Tryd.ntmps25
  go_wp2
  go_ret
  exact ⟨0, rfl, rfl⟩
set_option maxHeartbeats 1000000 in
theorem sameW_eq (va vb : Value) (xs ys : List Int) (w : World) (hA : Rd .u64 w va xs) (hB : Rd .u64 w vb ys) (hl : xs.length = ys.length) (hm1 : xs.length ≤ maxLen) :
    Calls Tryd.prog 25 #[va, vb] w (SameP w (decide (xs = ys))) := by
  unfold maxLen at hm1
  rcases hA with ⟨rfl, a, c, rfl⟩ | ⟨b, off, c, rfl, g1, g2, g3, g4⟩
  · obtain rfl : ys = [] := List.eq_nil_of_length_eq_zero (by simpa using hl.symm)
    obtain ⟨b, d, rfl⟩ := hB.slice
    clear hB hl
    go_enter Tryd.func25, Tryd.ntmps25
    go_wp2
    refine wp_loop_rounds 1 ?_
    rw [rounds_succ]
    go_wp2
    go_ret
    exact ⟨0, rfl, rfl⟩
  rcases hB with ⟨rfl, a, c, rfl⟩ | ⟨b', off', c', rfl, g1', g2', g3', g4'⟩
  · exfalso; simp only [List.length_nil] at hl; omega
  obtain ⟨n, hn⟩ : ∃ n, n = xs.length := ⟨_, rfl⟩
  rw [← hn] at hl
  rw [← hl] at g1' g2' g4' ⊢
  rw [← hn] at g1 g2 g4 hm1 ⊢
  have G4 := Lib.hid g4
  have G4' := Lib.hid g4'
  have Hn := Lib.hid hn
  have Hl := Lib.hid hl
  clear g4 g4' hn hl
  have hq : ((n : Int) != n) = false := by simp
  go_enter Tryd.func25, Tryd.ntmps25
  go_wp2
  go_loopw [5] (fun i wr => ∃ j m : Nat, j ≤ n ∧ i = .int .i64 j ∧ wr = w.drewN m ∧ xs.take j = ys.take j) (fun i _ => n - (intOf i).toNat)
  case atStart => exact ⟨0, 0, Nat.zero_le _, rfl, rfl, rfl⟩
  case round =>
    obtain ⟨j, m, hj, rfl, rfl, ht⟩ := hrel
    have HT := Lib.hid ht
    clear ht
    by_cases hlt : j < n
    · have c1 := G4.out j hlt
      have c2 := G4'.out j hlt
      have e1 : xs[j]? = some (xs.getD j 0) := by rw [List.getD_eq_getElem?_getD, List.getElem?_eq_getElem (by rw [← Hn.out]; exact hlt)]; simp
      have e2 : ys[j]? = some (ys.getD j 0) := by rw [List.getD_eq_getElem?_getD, List.getElem?_eq_getElem (by rw [← Hl.out]; exact hlt)]; simp
      obtain ⟨x, ex⟩ : ∃ x, x = xs.getD j 0 := ⟨_, rfl⟩
      obtain ⟨y, ey⟩ : ∃ y, y = ys.getD j 0 := ⟨_, rfl⟩
      rw [← ex] at c1 e1
      rw [← ey] at c2 e2
      have E1 := Lib.hid e1
      have E2 := Lib.hid e2
      clear e1 e2 ex ey
      by_cases hxy : x = y
      · have hb : (x != y) = false := by simp [hxy]
        have Hxy := Lib.hid hxy
        clear hxy
        go_wp2
        go_quiet (fail)
        go_wp2
        go_roundw
        case rel => exact ⟨j + 1, _, by omega, by go_num, rfl, by rw [List.take_add_one, List.take_add_one, HT.out, E1.out, E2.out, Hxy.out]⟩
        case measure => simp [intOf] <;> omega
      · have hb : (x != y) = true := by simp [hxy]
        have Hxy := Lib.hid hxy
        clear hxy
        have hne : decide (xs = ys) = false := by
          rw [decide_eq_false_iff_not]
          intro e
          rw [e, E2.out] at E1
          have := E1.out
          exact Hxy.out (by simpa using this.symm)
        have HNE := Lib.hid hne
        clear hne
        go_wp2
        go_quiet (fail)
        go_wp2
        go_ret
        exact ⟨_, congrArg (fun b => Ending.returned (.bool b)) HNE.out.symm, drewN_two _ _ _⟩
    · obtain rfl : j = n := by omega
      have heq : decide (xs = ys) = true := by
        rw [decide_eq_true_iff]
        have := HT.out
        rw [List.take_of_length_le (by rw [← Hn.out]; omega), List.take_of_length_le (by rw [← Hl.out]; omega)] at this
        exact this
      have HEQ := Lib.hid heq
      clear heq
      go_wp2
      go_ret
      exact ⟨m, congrArg (fun b => Ending.returned (.bool b)) HEQ.out.symm, rfl⟩
theorem sameW_ok (va vb : Value) (xs ys : List Int) (w : World) (hA : Rd .u64 w va xs) (hB : Rd .u64 w vb ys) (hm1 : xs.length ≤ maxLen) (hm2 : ys.length ≤ maxLen) :
    Calls Tryd.prog 25 #[va, vb] w (SameP w (decide (xs = ys))) := by
  by_cases hl : xs.length = ys.length
  · exact sameW_eq va vb xs ys w hA hB hl hm1
  · rw [show decide (xs = ys) = false by rw [decide_eq_false_iff_not]; intro e; exact hl (by rw [e])]
    exact sameW_len va vb xs ys w hA hB hl hm1 hm2
set_option maxHeartbeats 1000000 in
theorem sameI_len (va vb : Value) (xs ys : List Int) (w : World) (hA : Rd .i64 w va xs) (hB : Rd .i64 w vb ys) (hl : xs.length ≠ ys.length) (hm1 : xs.length ≤ maxLen) (hm2 : ys.length ≤ maxLen) :
    Calls Tryd.prog 26 #[va, vb] w (SameP w false) := by
  obtain ⟨a, c, rfl⟩ := hA.slice
  obtain ⟨b, d, rfl⟩ := hB.slice
  unfold maxLen at hm1 hm2
  have h1 : ((xs.length : Int) != ys.length) = true := by simp; omega
  clear hA hB
  go_enter Tryd.func26, Tryd.ntmps26
  go_wp2
  go_ret
  exact ⟨0, rfl, rfl⟩
set_option maxHeartbeats 1000000 in
theorem sameI_eq (va vb : Value) (xs ys : List Int) (w : World) (hA : Rd .i64 w va xs) (hB : Rd .i64 w vb ys) (hl : xs.length = ys.length) (hm1 : xs.length ≤ maxLen) :
    Calls Tryd.prog 26 #[va, vb] w (SameP w (decide (xs = ys))) := by
  unfold maxLen at hm1
  rcases hA with ⟨rfl, a, c, rfl⟩ | ⟨b, off, c, rfl, g1, g2, g3, g4⟩
  · obtain rfl : ys = [] := List.eq_nil_of_length_eq_zero (by simpa using hl.symm)
    obtain ⟨b, d, rfl⟩ := hB.slice
    clear hB hl
    go_enter Tryd.func26, Tryd.ntmps26
    go_wp2
    refine wp_loop_rounds 1 ?_
    rw [rounds_succ]
    go_wp2
    go_ret
    exact ⟨0, rfl, rfl⟩
  rcases hB with ⟨rfl, a, c, rfl⟩ | ⟨b', off', c', rfl, g1', g2', g3', g4'⟩
  · exfalso; simp only [List.length_nil] at hl; omega
  obtain ⟨n, hn⟩ : ∃ n, n = xs.length := ⟨_, rfl⟩
  rw [← hn] at hl
  rw [← hl] at g1' g2' g4' ⊢
  rw [← hn] at g1 g2 g4 hm1 ⊢
  have G4 := Lib.hid g4
  have G4' := Lib.hid g4'
  have Hn := Lib.hid hn
  have Hl := Lib.hid hl
  clear g4 g4' hn hl
  have hq : ((n : Int) != n) = false := by simp
  go_enter Tryd.func26, Tryd.ntmps26
  go_wp2
  go_loopw [5] (fun i wr => ∃ j m : Nat, j ≤ n ∧ i = .int .i64 j ∧ wr = w.drewN m ∧ xs.take j = ys.take j) (fun i _ => n - (intOf i).toNat)
  case atStart => exact ⟨0, 0, Nat.zero_le _, rfl, rfl, rfl⟩
  case round =>
    obtain ⟨j, m, hj, rfl, rfl, ht⟩ := hrel
    have HT := Lib.hid ht
    clear ht
    by_cases hlt : j < n
    · have c1 := G4.out j hlt
      have c2 := G4'.out j hlt
      have e1 : xs[j]? = some (xs.getD j 0) := by rw [List.getD_eq_getElem?_getD, List.getElem?_eq_getElem (by rw [← Hn.out]; exact hlt)]; simp
      have e2 : ys[j]? = some (ys.getD j 0) := by rw [List.getD_eq_getElem?_getD, List.getElem?_eq_getElem (by rw [← Hl.out]; exact hlt)]; simp
      obtain ⟨x, ex⟩ : ∃ x, x = xs.getD j 0 := ⟨_, rfl⟩
      obtain ⟨y, ey⟩ : ∃ y, y = ys.getD j 0 := ⟨_, rfl⟩
      rw [← ex] at c1 e1
      rw [← ey] at c2 e2
      have E1 := Lib.hid e1
      have E2 := Lib.hid e2
      clear e1 e2 ex ey
      by_cases hxy : x = y
      · have hb : (x != y) = false := by simp [hxy]
        have Hxy := Lib.hid hxy
        clear hxy
        go_wp2
        go_quiet (fail)
        go_wp2
        go_roundw
        case rel => exact ⟨j + 1, _, by omega, by go_num, rfl, by rw [List.take_add_one, List.take_add_one, HT.out, E1.out, E2.out, Hxy.out]⟩
        case measure => simp [intOf] <;> omega
      · have hb : (x != y) = true := by simp [hxy]
        have Hxy := Lib.hid hxy
        clear hxy
        have hne : decide (xs = ys) = false := by
          rw [decide_eq_false_iff_not]
          intro e
          rw [e, E2.out] at E1
          have := E1.out
          exact Hxy.out (by simpa using this.symm)
        have HNE := Lib.hid hne
        clear hne
        go_wp2
        go_quiet (fail)
        go_wp2
        go_ret
        exact ⟨_, congrArg (fun b => Ending.returned (.bool b)) HNE.out.symm, drewN_two _ _ _⟩
    · obtain rfl : j = n := by omega
      have heq : decide (xs = ys) = true := by
        rw [decide_eq_true_iff]
        have := HT.out
        rw [List.take_of_length_le (by rw [← Hn.out]; omega), List.take_of_length_le (by rw [← Hl.out]; omega)] at this
        exact this
      have HEQ := Lib.hid heq
      clear heq
      go_wp2
      go_ret
      exact ⟨m, congrArg (fun b => Ending.returned (.bool b)) HEQ.out.symm, rfl⟩
theorem sameI_ok (va vb : Value) (xs ys : List Int) (w : World) (hA : Rd .i64 w va xs) (hB : Rd .i64 w vb ys) (hm1 : xs.length ≤ maxLen) (hm2 : ys.length ≤ maxLen) :
    Calls Tryd.prog 26 #[va, vb] w (SameP w (decide (xs = ys))) := by
  by_cases hl : xs.length = ys.length
  · exact sameI_eq va vb xs ys w hA hB hl hm1
  · rw [show decide (xs = ys) = false by rw [decide_eq_false_iff_not]; intro e; exact hl (by rw [e])]
    exact sameI_len va vb xs ys w hA hB hl hm1 hm2
end Go.Proofs.YtbfebfeliddpnaaDoor
