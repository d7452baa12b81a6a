/- That lists of blocks handed in are as they were: untouched, untouchedBlocks. -/
import Derived.Test.YtjcinelcocmpnaaDoorHandW
import Derived.Test.YtjcinelcocmpnaaDoorSameB
namespace Go.Proofs.YtjcinelcocmpnaaDoor
open Go.RowKit
set_option linter.unusedVariables false
set_option linter.unusedSimpArgs false
set_option maxHeartbeats 1000000 in
theorem untouched_ok (g : Nat) (v : Value) (zs : List Int) (w : World) (hr : Rd .u8 w v zs) (hm : zs.length ≤ 140737488351232) (hg : RowA .u8 5 w g (zs.length + 6) (handF zs 6)) :
    Calls Tryd.prog 18 #[.slice (some ⟨g, 0, none⟩) (zs.length + 6) (zs.length + 6), v] w (SameP w true) := by
  obtain ⟨A, c, rfl⟩ := hr.slice
  obtain ⟨L, eL⟩ : ∃ L, L = zs.length := ⟨_, rfl⟩
  have hS : Calls Tryd.prog 12 #[.slice (some ⟨g, 0, none⟩) zs.length (zs.length + 6), .slice A zs.length c] w (SameP w true) := by
    have := sameB_ok _ _ zs zs w (hg.rd zs (zs.length + 6) (by omega) (by omega) (fun i hi => by unfold handF; rw [if_pos hi])) hr (by unfold maxLen; omega) (by unfold maxLen; omega)
    rw [decide_eq_true rfl] at this
    exact this
  have hc : ∀ j, j < 6 → w.cell? ⟨g, zs.length + j, none⟩ = some (.int .u8 (200 + (j : Int))) := by
    intro j hj
    rw [hg.cell _ (by omega)]
    unfold handF
    rw [if_neg (by omega), if_pos (by omega)]
    congr 3; omega
  rw [← eL] at hS hc hm ⊢
  have HS := Lib.hid hS
  have HC := Lib.hid hc
  clear hS hc hg hr eL
  go_enter Tryd.func18, Tryd.ntmps18
  go_wp2
  go_loop [5] (fun i => ∃ j : Nat, j ≤ 6 ∧ i = .int .i64 j) (fun i => 6 - (intOf i).toNat)
  case atStart => exact ⟨0, by omega, rfl⟩
  case round =>
    obtain ⟨j, hj, rfl⟩ := hrel
    by_cases hlt : j < 6
    · have hc := HC.out j hlt
      go_wp2
      go_round
      case rel => exact ⟨j + 1, by omega, by go_num⟩
      case measure => simp [intOf] <;> omega
    · obtain rfl : j = 6 := by omega
      go_wp2_with fail
      refine HS.out.mono ?_
      rintro e w1 ⟨m, rfl, rfl⟩
      go_wp2
      go_ret
      exact ⟨m, rfl, rfl⟩
end Go.Proofs.YtjcinelcocmpnaaDoor
