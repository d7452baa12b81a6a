/- Words out of bits. -/
import Derived.Test.YtbfebfeliddpnaaDoorHp
import Derived.Laws.BitsAll
import Derived.Laws.Bits64b
namespace Go.Proofs.YtbfebfeliddpnaaDoor
open Go.RowKit
set_option linter.unusedVariables false
set_option linter.unusedSimpArgs false
/-- Word k of the bits below t. -/
def wd (bit : Nat → Bool) : Nat → Nat → Nat
  | 0, _ => 0
  | t + 1, k => wd bit t k + (if t / 64 = k ∧ bit t = true then 2 ^ (t % 64) else 0)
theorem wd_zero (bit : Nat → Bool) (t k : Nat) (h : t ≤ 64 * k) : wd bit t k = 0 := by
  induction t with
  | zero => rfl
  | succ t ih => rw [wd, ih (by omega), if_neg (by omega)]
theorem wd_in (bit : Nat → Bool) (k r : Nat) (h : r ≤ 64) : wd bit (64 * k + r) k < 2 ^ r := by
  induction r with
  | zero => rw [Nat.add_zero, wd_zero bit _ k (by omega)]; simp
  | succ r ih =>
    have h1 := ih (by omega)
    rw [show 64 * k + (r + 1) = (64 * k + r) + 1 by omega, wd]
    have h2 : (if (64 * k + r) / 64 = k ∧ bit (64 * k + r) = true then 2 ^ ((64 * k + r) % 64) else 0) ≤ 2 ^ r := by
      split
      · rw [show (64 * k + r) % 64 = r by omega]; exact Nat.le_refl _
      · exact Nat.zero_le _
    rw [Nat.pow_succ]; omega
theorem wd_stay (bit : Nat → Bool) (t k d : Nat) (h : 64 * k + 64 ≤ t) : wd bit (t + d) k = wd bit t k := by
  induction d with
  | zero => rfl
  | succ d ih => rw [← Nat.add_assoc, wd, ih, if_neg (by omega), Nat.add_zero]
theorem wd_lt (bit : Nat → Bool) (t k : Nat) : wd bit t k < 2 ^ 64 := by
  by_cases h : t ≤ 64 * k
  · rw [wd_zero bit t k h]; exact Nat.two_pow_pos _
  · by_cases h2 : t ≤ 64 * k + 64
    · have := wd_in bit k (t - 64 * k) (by omega)
      rw [show 64 * k + (t - 64 * k) = t by omega] at this
      exact Nat.lt_of_lt_of_le this (Nat.pow_le_pow_right (by decide) (by omega))
    · have := wd_stay bit (64 * k + 64) k (t - (64 * k + 64)) (Nat.le_refl _)
      rw [show 64 * k + 64 + (t - (64 * k + 64)) = t by omega] at this
      rw [this]; exact wd_in bit k 64 (Nat.le_refl _)
theorem wd_yes (bit : Nat → Bool) (t : Nat) (h : bit t = true) : wd bit (t + 1) (t / 64) = wd bit t (t / 64) ||| 2 ^ (t % 64) := by
  rw [wd, if_pos ⟨rfl, h⟩]
  have h1 := wd_in bit (t / 64) (t % 64) (by omega)
  rw [show 64 * (t / 64) + t % 64 = t by omega] at h1
  have h2 := Nat.two_pow_add_eq_or_of_lt h1 1
  rw [Nat.mul_one] at h2
  rw [Nat.add_comm, h2, Nat.or_comm]
theorem wd_sum (bit : Nat → Bool) (t : Nat) (h : bit t = true) : wd bit (t + 1) (t / 64) = wd bit t (t / 64) + 2 ^ (t % 64) := by
  rw [wd, if_pos ⟨rfl, h⟩]
theorem wd_far (bit : Nat → Bool) (t k : Nat) (h : k ≠ t / 64) : wd bit (t + 1) k = wd bit t k := by
  rw [wd, if_neg (by omega), Nat.add_zero]
theorem wd_no (bit : Nat → Bool) (t k : Nat) (h : bit t = false) : wd bit (t + 1) k = wd bit t k := by
  rw [wd, if_neg (by simp [h]), Nat.add_zero]
theorem wd_congr (b1 b2 : Nat → Bool) (t k : Nat) (h : ∀ i, i < t → b1 i = b2 i) : wd b1 t k = wd b2 t k := by
  induction t with
  | zero => rfl
  | succ t ih => rw [wd, wd, ih (fun i hi => h i (by omega)), h t (by omega)]
theorem wraps64 (n : Int) (h0 : 0 ≤ n) (h1 : n < 2 ^ 64) : IntKind.u64.wrap n = n := by
  rw [IntKind.wrap_u64]; omega
theorem or_bit (x r : Nat) (hx : x < 2 ^ 64) (hr : r < 64) : bits .or .u64 (x : Int) (IntKind.u64.wrap (2 ^ r)) = ((x ||| 2 ^ r : Nat) : Int) := by
  have h1 : (2 : Nat) ^ r < 2 ^ 64 := Nat.pow_lt_pow_right (by decide) hr
  have h2 : IntKind.u64.wrap (2 ^ r) = ((2 ^ r : Nat) : Int) := by
    rw [wraps64 (2 ^ r) (by have := Int.pow_pos (n := 2) (m := r) (by decide); omega) (by exact_mod_cast h1)]
    simp
  rw [h2]
  exact (bits_nat .u64 64 (by decide) wraps64 x (2 ^ r) hx h1).2
theorem wd_bit (bit : Nat → Bool) (t k r : Nat) : (wd bit t k).testBit r = (decide (r < 64) && decide (64 * k + r < t) && bit (64 * k + r)) := by
  induction t with
  | zero => simp [wd]
  | succ t ih =>
    by_cases hk : t / 64 = k
    · cases hb : bit t
      · rw [wd_no bit t k hb, ih]
        by_cases e : 64 * k + r = t
        · rw [e, hb]; simp
        · by_cases h1 : 64 * k + r < t
          · rw [decide_eq_true h1, decide_eq_true (by omega : 64 * k + r < t + 1)]
          · rw [decide_eq_false h1, decide_eq_false (by omega : ¬ 64 * k + r < t + 1)]
      · rw [← hk, wd_yes bit t hb, Nat.testBit_or, hk, ih, Nat.testBit_two_pow]
        by_cases e : t % 64 = r
        · have e2 : 64 * k + r = t := by omega
          rw [decide_eq_true e, e2, hb, decide_eq_true (by omega : r < 64), decide_eq_true (by omega : t < t + 1)]
          simp
        · rw [decide_eq_false e, Bool.or_false]
          by_cases h64 : r < 64
          · by_cases h1 : 64 * k + r < t
            · rw [decide_eq_true h1, decide_eq_true (by omega : 64 * k + r < t + 1)]
            · rw [decide_eq_false h1, decide_eq_false (by omega : ¬ 64 * k + r < t + 1)]
          · rw [decide_eq_false h64]; simp
    · rw [wd_far bit t k (by omega), ih]
      by_cases h64 : r < 64
      · by_cases h1 : 64 * k + r < t
        · rw [decide_eq_true h1, decide_eq_true (by omega : 64 * k + r < t + 1)]
        · rw [decide_eq_false h1, decide_eq_false (by omega : ¬ 64 * k + r < t + 1)]
      · rw [decide_eq_false h64]; simp
/-- The bits with those from a up to j besides. -/
def runTo (f : Nat → Bool) (a j q : Nat) : Bool := f q || (decide (a ≤ q) && decide (q < j))
theorem runTo_none (f : Nat → Bool) (a : Nat) : runTo f a a = f := by
  funext q
  unfold runTo
  by_cases h : a ≤ q
  · rw [decide_eq_false (by omega : ¬ q < a)]; simp
  · rw [decide_eq_false h]; simp
theorem runTo_step (f : Nat → Bool) (a j n k : Nat) (h1 : a ≤ j) (h2 : j < n) :
    wd (runTo f a (j + 1)) n k = if k = j / 64 then wd (runTo f a j) n k ||| 2 ^ (j % 64) else wd (runTo f a j) n k := by
  have key : ∀ q, runTo f a (j + 1) q = (runTo f a j q || decide (q = j)) := by
    intro q
    unfold runTo
    by_cases e : q = j
    · rw [e, decide_eq_true h1, decide_eq_true (by omega : j < j + 1)]; simp
    · rw [decide_eq_false e]
      by_cases h : q < j
      · rw [decide_eq_true h, decide_eq_true (by omega : q < j + 1)]; simp
      · rw [decide_eq_false h, decide_eq_false (by omega : ¬ q < j + 1)]; simp
  by_cases hk : k = j / 64
  · rw [if_pos hk]
    refine Nat.eq_of_testBit_eq fun r => ?_
    rw [Nat.testBit_or, wd_bit, wd_bit, key, Nat.testBit_two_pow]
    by_cases e : j % 64 = r
    · have e2 : 64 * k + r = j := by omega
      rw [e2, decide_eq_true e, decide_eq_true (rfl : j = j), decide_eq_true (by omega : r < 64), decide_eq_true h2]
      simp
    · rw [decide_eq_false e, Bool.or_false]
      by_cases h64 : r < 64
      · rw [decide_eq_false (by omega : ¬ 64 * k + r = j), Bool.or_false]
      · rw [decide_eq_false h64]; simp
  · rw [if_neg hk]
    refine Nat.eq_of_testBit_eq fun r => ?_
    rw [wd_bit, wd_bit, key]
    by_cases h64 : r < 64
    · rw [decide_eq_false (by omega : ¬ 64 * k + r = j), Bool.or_false]
    · rw [decide_eq_false h64]; simp
theorem wd_nil (n k : Nat) : wd (fun _ => false) n k = 0 := by
  refine Nat.eq_of_testBit_eq fun r => ?_
  rw [wd_bit]; simp
end Go.Proofs.YtbfebfeliddpnaaDoor
