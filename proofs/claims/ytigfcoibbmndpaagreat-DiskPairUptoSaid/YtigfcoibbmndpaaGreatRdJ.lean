/- The reference's Keep, Sizes. -/
import Derived.Test.YtigfcoibbmndpaaGreatRdI
import Derived.Outline
namespace Go.Proofs.YtigfcoibbmndpaaGreat
open Go.RowKit
open Go.ChangeMaps
set_option linter.unusedVariables false
set_option linter.unusedSimpArgs false
set_option maxHeartbeats 2000000 in
set_option maxRecDepth 100000 in
theorem rkeep_ok (w : World) (v : Value) (ks : List Int) (k n : Nat) (hr : Rd .u8 w v ks) (hb : BytesL ks) (hl : ks.length ≤ 9223372036854775807) (hk : k ≤ 8192) (hn : n ≤ 1000000000000000) :
    Calls Tryz.prog 86 #[v, .int .i64 k, .int .i64 n] w fun e w' => e = .returned (.int .i64 (keepP ks k n)) ∧ ∃ m, w' = w.drewN m := by
  obtain ⟨A, cp, rfl⟩ := hr.slice
  obtain ⟨P, eP⟩ : ∃ P, P = ks.length := ⟨_, rfl⟩
  obtain ⟨kp, ekp⟩ : ∃ kp, kp = keepP ks k n := ⟨_, rfl⟩
  rw [← eP] at hl ⊢
  rw [← ekp]
  by_cases hP : P = 0
  · have e0 : kp = 0 := by rw [ekp]; unfold keepP; rw [if_pos (by rw [← eP]; exact hP)]
    subst e0
    subst hP
    clear hr ekp eP
    go_enter Tryz.func86, Tryz.ntmps86
    go_wp2_with fail
    go_ret
    exact ⟨rfl, 0, rfl⟩
  · have hy := hb.at (k % ks.length)
    have hyk : ks.getD (k % ks.length) 0 % ((n : Int) + 1) = (kp : Int) := by
      rw [ekp]; unfold keepP
      rw [if_neg (by rw [← eP]; exact hP)]
      obtain ⟨yn, eyn⟩ : ∃ yn : Nat, ks.getD (k % ks.length) 0 = (yn : Int) := ⟨_, (Int.toNat_of_nonneg hy.1).symm⟩
      rw [eyn, Int.toNat_natCast]
      exact (Int.natCast_emod yn (n + 1)).symm
    rw [← eP] at hy hyk
    obtain ⟨y, ey⟩ : ∃ y, y = ks.getD (k % P) 0 := ⟨_, rfl⟩
    rw [← ey] at hy hyk
    obtain ⟨b, off, rfl, cy⟩ : ∃ b off, A = some ⟨b, off, none⟩ ∧ w.cell? ⟨b, off + k % P, none⟩ = some (.int .u8 y) := by
      rcases hr with ⟨h, _⟩ | ⟨b, off, c, e, g1, g2, g3, g4⟩
      · rw [eP, h] at hP; simp at hP
      · simp only [Value.slice.injEq] at e
        exact ⟨b, off, e.1, by rw [ey]; exact g4 _ (by rw [eP]; exact Nat.mod_lt _ (by rw [← eP]; omega))⟩
    have hPp : 0 < P := by omega
    have m1 : (((k : Int) % (P : Int)) : Int).toNat = k % P := by omega
    have m2 : (0 : Int) ≤ (k : Int) % (P : Int) := by omega
    have m3 : (k : Int) % (P : Int) < (P : Int) := by have := Nat.mod_lt k hPp; omega
    have m5 : k % P < P := Nat.mod_lt k hPp
    have t0 : (1 : Int) ≤ (P : Int) := by omega
    have hy0 := hy.1
    have hy1 := hy.2
    have HKP := Lib.hid hyk
    clear hr ekp eP ey hy hyk hP hb
    go_enter Tryz.func86, Tryz.ntmps86
    go_wp2_with fail
    (try (go_quiet (fail); go_wp2_with fail))
    go_ret
    refine ⟨?_, ?_⟩
    · first | exact congrArg (fun x => Ending.returned (.int .i64 x)) HKP.out | (rw [← HKP.out]; rfl) | (simp only [HKP.out]; rfl)
    · first | exact ⟨0, rfl⟩ | exact ⟨_, rfl⟩
set_option maxHeartbeats 1000000 in
set_option maxRecDepth 100000 in
theorem sizes_ok (w : World) (x : Int) :
    Calls Tryz.prog 28 #[.int .i64 x] w fun e w' => e = .returned (.bool (decide (x = 128 ∨ x = 256 ∨ x = 512 ∨ x = 1024))) ∧ w = w' := by
  by_cases h : x = 128 ∨ x = 256 ∨ x = 512 ∨ x = 1024
  · have HD := Lib.hid (show decide (x = 128 ∨ x = 256 ∨ x = 512 ∨ x = 1024) = true from decide_eq_true h)
    rcases h with rfl | rfl | rfl | rfl <;>
    · go_enter Tryz.func28, Tryz.ntmps28
      go_wp2_with fail
      go_ret
      exact ⟨by first | rfl | (rw [HD.out]; rfl), rfl⟩
  · have HD := Lib.hid (show decide (x = 128 ∨ x = 256 ∨ x = 512 ∨ x = 1024) = false from decide_eq_false h)
    have e1 : (x == 128) = false := by simp; omega
    have e2 : (x == 256) = false := by simp; omega
    have e3 : (x == 512) = false := by simp; omega
    have e4 : (x == 1024) = false := by simp; omega
    clear h
    go_enter Tryz.func28, Tryz.ntmps28
    go_wp2_with fail
    go_ret
    exact ⟨by first | rfl | (rw [HD.out]; rfl), rfl⟩
end Go.Proofs.YtigfcoibbmndpaaGreat
