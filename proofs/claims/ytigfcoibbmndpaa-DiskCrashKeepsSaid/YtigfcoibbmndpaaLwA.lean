/- The law's own small functions: usable, trouble, left. -/
import Derived.Test.YtigfcoibbmndpaaSam2
import Derived.Outline
namespace Go.Proofs.Ytigfcoibbmndpaa
open Go.RowKit
open Go.ChangeMaps
set_option linter.unusedVariables false
set_option linter.unusedSimpArgs false
/-- May a disk have these numbers? -/
def Usable (nb sz : Int) : Prop := 1 ≤ nb ∧ nb ≤ 8192 ∧ (sz = 128 ∨ sz = 256 ∨ sz = 512 ∨ sz = 1024)
def usableB (nb sz : Int) : Bool := decide (1 ≤ nb) && decide (nb ≤ 8192) && (decide (sz = 128) || decide (sz = 256) || decide (sz = 512) || decide (sz = 1024))
theorem usableB_yes {nb sz : Int} (h : Usable nb sz) : usableB nb sz = true := by
  unfold usableB; obtain ⟨h1, h2, h3⟩ := h
  simp [h1, h2]; omega
theorem usableB_no {nb sz : Int} (h : ¬ Usable nb sz) : usableB nb sz = false := by
  cases hb : usableB nb sz
  · rfl
  · exfalso; apply h
    unfold usableB at hb
    simp at hb
    exact ⟨hb.1.1, hb.1.2, by omega⟩
set_option maxHeartbeats 4000000 in
set_option maxRecDepth 100000 in
theorem usable_ok (w : World) (nb sz : Int) :
    Calls Try.prog 10 #[.int .i64 nb, .int .i64 sz] w fun e w' => e = .returned (.bool (usableB nb sz)) ∧ w = w' := by
  by_cases h1 : 1 ≤ nb ∧ nb ≤ 8192
  · obtain ⟨h1, h2⟩ := h1
    by_cases hs : sz = 128 ∨ sz = 256 ∨ sz = 512 ∨ sz = 1024
    · have HU := Lib.hid (show usableB nb sz = true from usableB_yes ⟨h1, h2, hs⟩)
      rcases hs with rfl | rfl | rfl | rfl
      · go_enter Try.func10, Try.ntmps10
        go_wp2_with fail
        refine wp_loop_rounds 1 ?_
        rw [rounds_succ]
        go_wp2_with fail
        go_ret
        exact ⟨by rw [HU.out]; rfl, rfl⟩
      · go_enter Try.func10, Try.ntmps10
        go_wp2_with fail
        refine wp_loop_rounds 2 ?_
        rw [rounds_succ]
        go_wp2_with fail
        rw [rounds_succ]
        go_wp2_with fail
        go_ret
        exact ⟨by rw [HU.out]; rfl, rfl⟩
      · go_enter Try.func10, Try.ntmps10
        go_wp2_with fail
        refine wp_loop_rounds 3 ?_
        rw [rounds_succ]
        go_wp2_with fail
        rw [rounds_succ]
        go_wp2_with fail
        rw [rounds_succ]
        go_wp2_with fail
        go_ret
        exact ⟨by rw [HU.out]; rfl, rfl⟩
      · go_enter Try.func10, Try.ntmps10
        go_wp2_with fail
        refine wp_loop_rounds 4 ?_
        rw [rounds_succ]
        go_wp2_with fail
        rw [rounds_succ]
        go_wp2_with fail
        rw [rounds_succ]
        go_wp2_with fail
        rw [rounds_succ]
        go_wp2_with fail
        go_ret
        exact ⟨by rw [HU.out]; rfl, rfl⟩
    · have HU := Lib.hid (show usableB nb sz = false from usableB_no fun h => hs h.2.2)
      have e1 : (128 == sz) = false := by simp; omega
      have e2 : (256 == sz) = false := by simp; omega
      have e3 : (512 == sz) = false := by simp; omega
      have e4 : (1024 == sz) = false := by simp; omega
      clear hs
      go_enter Try.func10, Try.ntmps10
      go_wp2_with fail
      refine wp_loop_rounds 5 ?_
      rw [rounds_succ]
      go_wp2_with fail
      rw [rounds_succ]
      go_wp2_with fail
      rw [rounds_succ]
      go_wp2_with fail
      rw [rounds_succ]
      go_wp2_with fail
      rw [rounds_succ]
      go_wp2_with fail
      go_ret
      exact ⟨by rw [HU.out]; rfl, rfl⟩
  · have HU := Lib.hid (show usableB nb sz = false from usableB_no fun h => h1 ⟨h.1, h.2.1⟩)
    by_cases h0 : nb < 1
    · clear h1
      go_enter Try.func10, Try.ntmps10
      go_wp2_with fail
      go_ret
      exact ⟨by rw [HU.out]; rfl, rfl⟩
    · have h2 : 8192 < nb := by omega
      clear h1
      go_enter Try.func10, Try.ntmps10
      go_wp2_with fail
      go_ret
      exact ⟨by rw [HU.out]; rfl, rfl⟩
/-- What trouble tells of an error. -/
def trB (e0 j : Int) : Int := if e0 = 0 then -1 else j
theorem tr_is (v : Value) (w : World) : (Instr.typeAssert (.iface 104 v) 30 104 true).run Try.prog w = .ok (.tuple #[v, .bool true]) w := by kernel_rfl
set_option maxHeartbeats 2000000 in
set_option maxRecDepth 100000 in
theorem trouble_ok (lo : Nat) (w : World) (v : Value) (e0 j : Int) (h : AnsE lo w v e0 j) :
    Calls Try.prog 41 #[v] w fun e w' => e = .returned (.tuple #[.int .i64 e0, .int .i64 (trB e0 j)]) ∧ ∃ n, w' = w.drewN n := by
  rcases h with ⟨rfl, rfl⟩ | ⟨b, rfl, hb, h0, hblk⟩
  · go_enter Try.func41, Try.ntmps41
    go_wp2_with fail
    go_ret2
    exact ⟨rfl, 0, rfl⟩
  · have c0 : w.cell? ⟨b, 0, none⟩ = some (.int .i64 j) := hblk.cell 0
    have c1 : w.cell? ⟨b, 1, none⟩ = some (.int .i64 e0) := hblk.cell 1
    have HT := Lib.hid (show trB e0 j = j by unfold trB; rw [if_neg h0])
    have hta := tr_is (.pointer (some ⟨b, 0, none⟩))
    clear hblk hb h0
    go_enter Try.func41, Try.ntmps41
    go_wp2_with fail
    go_quiet (fail)
    go_wp2_with fail
    go_ret2
    exact ⟨by rw [HT.out]; rfl, _, rfl⟩
end Go.Proofs.Ytigfcoibbmndpaa
