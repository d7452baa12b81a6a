/- Rotations of words of 32 bits, the document's. -/
import Derived.Test.YtjcinelcocmpnaaDoorShaA
namespace Go.Proofs.YtjcinelcocmpnaaDoor
open Go.RowKit
set_option linter.unusedVariables false
set_option linter.unusedSimpArgs false
set_option maxHeartbeats 400000 in
theorem turn_2 (x : Int) (w : World) : Calls Tryd.prog 51 #[.int .u32 x, .int .u32 2] w fun e w' => e = .returned (.int .u32 (rotF x 2)) ∧ w = w' := by
  have h : rotF x 2 = bits .or .u32 (x / 4) (x * 1073741824 % 4294967296) := rfl
  go_enter Tryd.func51, Tryd.ntmps51
  go_wp2
  go_ret
  exact ⟨by rw [h]; rfl, rfl⟩
set_option maxHeartbeats 400000 in
theorem turn_6 (x : Int) (w : World) : Calls Tryd.prog 51 #[.int .u32 x, .int .u32 6] w fun e w' => e = .returned (.int .u32 (rotF x 6)) ∧ w = w' := by
  have h : rotF x 6 = bits .or .u32 (x / 64) (x * 67108864 % 4294967296) := rfl
  go_enter Tryd.func51, Tryd.ntmps51
  go_wp2
  go_ret
  exact ⟨by rw [h]; rfl, rfl⟩
set_option maxHeartbeats 400000 in
theorem turn_7 (x : Int) (w : World) : Calls Tryd.prog 51 #[.int .u32 x, .int .u32 7] w fun e w' => e = .returned (.int .u32 (rotF x 7)) ∧ w = w' := by
  have h : rotF x 7 = bits .or .u32 (x / 128) (x * 33554432 % 4294967296) := rfl
  go_enter Tryd.func51, Tryd.ntmps51
  go_wp2
  go_ret
  exact ⟨by rw [h]; rfl, rfl⟩
set_option maxHeartbeats 400000 in
theorem turn_11 (x : Int) (w : World) : Calls Tryd.prog 51 #[.int .u32 x, .int .u32 11] w fun e w' => e = .returned (.int .u32 (rotF x 11)) ∧ w = w' := by
  have h : rotF x 11 = bits .or .u32 (x / 2048) (x * 2097152 % 4294967296) := rfl
  go_enter Tryd.func51, Tryd.ntmps51
  go_wp2
  go_ret
  exact ⟨by rw [h]; rfl, rfl⟩
set_option maxHeartbeats 400000 in
theorem turn_13 (x : Int) (w : World) : Calls Tryd.prog 51 #[.int .u32 x, .int .u32 13] w fun e w' => e = .returned (.int .u32 (rotF x 13)) ∧ w = w' := by
  have h : rotF x 13 = bits .or .u32 (x / 8192) (x * 524288 % 4294967296) := rfl
  go_enter Tryd.func51, Tryd.ntmps51
  go_wp2
  go_ret
  exact ⟨by rw [h]; rfl, rfl⟩
set_option maxHeartbeats 400000 in
theorem turn_17 (x : Int) (w : World) : Calls Tryd.prog 51 #[.int .u32 x, .int .u32 17] w fun e w' => e = .returned (.int .u32 (rotF x 17)) ∧ w = w' := by
  have h : rotF x 17 = bits .or .u32 (x / 131072) (x * 32768 % 4294967296) := rfl
  go_enter Tryd.func51, Tryd.ntmps51
  go_wp2
  go_ret
  exact ⟨by rw [h]; rfl, rfl⟩
set_option maxHeartbeats 400000 in
theorem turn_18 (x : Int) (w : World) : Calls Tryd.prog 51 #[.int .u32 x, .int .u32 18] w fun e w' => e = .returned (.int .u32 (rotF x 18)) ∧ w = w' := by
  have h : rotF x 18 = bits .or .u32 (x / 262144) (x * 16384 % 4294967296) := rfl
  go_enter Tryd.func51, Tryd.ntmps51
  go_wp2
  go_ret
  exact ⟨by rw [h]; rfl, rfl⟩
set_option maxHeartbeats 400000 in
theorem turn_19 (x : Int) (w : World) : Calls Tryd.prog 51 #[.int .u32 x, .int .u32 19] w fun e w' => e = .returned (.int .u32 (rotF x 19)) ∧ w = w' := by
  have h : rotF x 19 = bits .or .u32 (x / 524288) (x * 8192 % 4294967296) := rfl
  go_enter Tryd.func51, Tryd.ntmps51
  go_wp2
  go_ret
  exact ⟨by rw [h]; rfl, rfl⟩
set_option maxHeartbeats 400000 in
theorem turn_22 (x : Int) (w : World) : Calls Tryd.prog 51 #[.int .u32 x, .int .u32 22] w fun e w' => e = .returned (.int .u32 (rotF x 22)) ∧ w = w' := by
  have h : rotF x 22 = bits .or .u32 (x / 4194304) (x * 1024 % 4294967296) := rfl
  go_enter Tryd.func51, Tryd.ntmps51
  go_wp2
  go_ret
  exact ⟨by rw [h]; rfl, rfl⟩
set_option maxHeartbeats 400000 in
theorem turn_25 (x : Int) (w : World) : Calls Tryd.prog 51 #[.int .u32 x, .int .u32 25] w fun e w' => e = .returned (.int .u32 (rotF x 25)) ∧ w = w' := by
  have h : rotF x 25 = bits .or .u32 (x / 33554432) (x * 128 % 4294967296) := rfl
  go_enter Tryd.func51, Tryd.ntmps51
  go_wp2
  go_ret
  exact ⟨by rw [h]; rfl, rfl⟩
end Go.Proofs.YtjcinelcocmpnaaDoor
