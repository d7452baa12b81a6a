/- Numbers taken within bounds: reader.within. -/
import Derived.Test.YtgehbfnfhjpjbaaDoorSupA
namespace Go.Proofs.YtgehbfnfhjpjbaaDoor
open Go.RowKit
set_option linter.unusedVariables false
set_option linter.unusedSimpArgs false
/-- The panic of a field that cannot be so. -/
def badF : List PanicEntry := [{ v := .iface 32 (.int .i64 53), recovered := false }]
set_option maxHeartbeats 1000000 in
set_option maxRecDepth 100000 in
theorem within_ok (g B off c p n : Nat) (xs : List Int) (lo hi v : Int) (w : World) (h : RdC 93 w g B off c p xs) (hn2 : n ≤ 8) (hp : p + n ≤ xs.length) (hL : xs.length ≤ 65536) (hv : v = numF ((xs.drop p).take n)) (h1 : lo ≤ v) (h2 : v ≤ hi) (h3 : 0 ≤ lo) (h4 : hi ≤ 4611686018427387904) :
    Calls Tryd.prog 32 #[.pointer (some ⟨g, 0, none⟩), .int .i64 n, .int .u64 lo, .int .u64 hi] w fun e w' => e = .returned (.int .i64 v) ∧ NmA 93 g B off c p n xs w w' := by
  have hnum := number_ok _ g B off c p n xs w h hn2 hp hL
  rw [← hv] at hnum
  have HN := Lib.hid hnum
  clear hnum h hp hL hv
  go_enter Tryd.func32, Tryd.ntmps32
  go_wp2_with fail
  refine HN.out.mono ?_
  rintro e w1 ⟨rfl, hP⟩
  have HP := Lib.hid hP
  clear hP
  have t1 : decide (v < lo) = false := by simp; omega
  have t2 : decide (hi < v) = false := by simp; omega
  go_wp2_with fail
  go_ret
  exact ⟨rfl, HP.out⟩
set_option maxHeartbeats 1000000 in
set_option maxRecDepth 100000 in
theorem within_bad (g B off c p n : Nat) (xs : List Int) (lo hi v : Int) (w : World) (h : RdC 93 w g B off c p xs) (hn2 : n ≤ 8) (hp : p + n ≤ xs.length) (hL : xs.length ≤ 65536) (hv : v = numF ((xs.drop p).take n)) (hno : v < lo ∨ hi < v) :
    Calls Tryd.prog 32 #[.pointer (some ⟨g, 0, none⟩), .int .i64 n, .int .u64 lo, .int .u64 hi] w fun e w' => e = .panicked badF ∧ Only [g] w w' := by
  have hnum := number_ok _ g B off c p n xs w h hn2 hp hL
  rw [← hv] at hnum
  have HN := Lib.hid hnum
  clear hnum h hp hL hv
  by_cases hlo : v < lo
  · have t1 : decide (v < lo) = true := by simpa using hlo
    go_enter Tryd.func32, Tryd.ntmps32
    go_wp2_with fail
    refine HN.out.mono ?_
    rintro e w1 ⟨rfl, hP⟩
    have HP := Lib.hid hP.1
    clear hP
    go_wp2_with fail
    exact ⟨rfl, rfl, HP.out⟩
  · have t1 : decide (v < lo) = false := by simpa using hlo
    have t2 : decide (hi < v) = true := by simp; omega
    go_enter Tryd.func32, Tryd.ntmps32
    go_wp2_with fail
    refine HN.out.mono ?_
    rintro e w1 ⟨rfl, hP⟩
    have HP := Lib.hid hP.1
    clear hP
    go_wp2_with fail
    exact ⟨rfl, rfl, HP.out⟩
end Go.Proofs.YtgehbfnfhjpjbaaDoor
