/- Rotations of words of 32 bits. -/
import Derived.Test.YtgehbfnfhjpjbaaDoorHp
import Derived.Deep.MidRow
import Derived.Deep.WholeRow
namespace Go.Proofs.YtgehbfnfhjpjbaaDoor
open Go.RowKit
set_option linter.unusedVariables false
set_option linter.unusedSimpArgs false
/-- x turned to the right by n bits. -/
def rotF (x : Int) (n : Nat) : Int := bits .or .u32 (x / 2 ^ n) (x * 2 ^ (32 - n) % 4294967296)
set_option maxHeartbeats 400000 in
theorem rotr_2 (x : Int) (w : World) : Calls Tryd.prog 35 #[.int .u32 x, .int .u64 2] w fun e w' => e = .returned (.int .u32 (rotF x 2)) ∧ w = w' := by
  have h : rotF x 2 = bits .or .u32 (x / 4) (x * 1073741824 % 4294967296) := rfl
  go_enter Tryd.func35, Tryd.ntmps35
  go_wp2
  go_ret
  exact ⟨by rw [h]; rfl, rfl⟩
set_option maxHeartbeats 400000 in
theorem rotr_6 (x : Int) (w : World) : Calls Tryd.prog 35 #[.int .u32 x, .int .u64 6] w fun e w' => e = .returned (.int .u32 (rotF x 6)) ∧ w = w' := by
  have h : rotF x 6 = bits .or .u32 (x / 64) (x * 67108864 % 4294967296) := rfl
  go_enter Tryd.func35, Tryd.ntmps35
  go_wp2
  go_ret
  exact ⟨by rw [h]; rfl, rfl⟩
set_option maxHeartbeats 400000 in
theorem rotr_7 (x : Int) (w : World) : Calls Tryd.prog 35 #[.int .u32 x, .int .u64 7] w fun e w' => e = .returned (.int .u32 (rotF x 7)) ∧ w = w' := by
  have h : rotF x 7 = bits .or .u32 (x / 128) (x * 33554432 % 4294967296) := rfl
  go_enter Tryd.func35, Tryd.ntmps35
  go_wp2
  go_ret
  exact ⟨by rw [h]; rfl, rfl⟩
set_option maxHeartbeats 400000 in
theorem rotr_11 (x : Int) (w : World) : Calls Tryd.prog 35 #[.int .u32 x, .int .u64 11] w fun e w' => e = .returned (.int .u32 (rotF x 11)) ∧ w = w' := by
  have h : rotF x 11 = bits .or .u32 (x / 2048) (x * 2097152 % 4294967296) := rfl
  go_enter Tryd.func35, Tryd.ntmps35
  go_wp2
  go_ret
  exact ⟨by rw [h]; rfl, rfl⟩
set_option maxHeartbeats 400000 in
theorem rotr_13 (x : Int) (w : World) : Calls Tryd.prog 35 #[.int .u32 x, .int .u64 13] w fun e w' => e = .returned (.int .u32 (rotF x 13)) ∧ w = w' := by
  have h : rotF x 13 = bits .or .u32 (x / 8192) (x * 524288 % 4294967296) := rfl
  go_enter Tryd.func35, Tryd.ntmps35
  go_wp2
  go_ret
  exact ⟨by rw [h]; rfl, rfl⟩
set_option maxHeartbeats 400000 in
theorem rotr_17 (x : Int) (w : World) : Calls Tryd.prog 35 #[.int .u32 x, .int .u64 17] w fun e w' => e = .returned (.int .u32 (rotF x 17)) ∧ w = w' := by
  have h : rotF x 17 = bits .or .u32 (x / 131072) (x * 32768 % 4294967296) := rfl
  go_enter Tryd.func35, Tryd.ntmps35
  go_wp2
  go_ret
  exact ⟨by rw [h]; rfl, rfl⟩
set_option maxHeartbeats 400000 in
theorem rotr_18 (x : Int) (w : World) : Calls Tryd.prog 35 #[.int .u32 x, .int .u64 18] w fun e w' => e = .returned (.int .u32 (rotF x 18)) ∧ w = w' := by
  have h : rotF x 18 = bits .or .u32 (x / 262144) (x * 16384 % 4294967296) := rfl
  go_enter Tryd.func35, Tryd.ntmps35
  go_wp2
  go_ret
  exact ⟨by rw [h]; rfl, rfl⟩
set_option maxHeartbeats 400000 in
theorem rotr_19 (x : Int) (w : World) : Calls Tryd.prog 35 #[.int .u32 x, .int .u64 19] w fun e w' => e = .returned (.int .u32 (rotF x 19)) ∧ w = w' := by
  have h : rotF x 19 = bits .or .u32 (x / 524288) (x * 8192 % 4294967296) := rfl
  go_enter Tryd.func35, Tryd.ntmps35
  go_wp2
  go_ret
  exact ⟨by rw [h]; rfl, rfl⟩
set_option maxHeartbeats 400000 in
theorem rotr_22 (x : Int) (w : World) : Calls Tryd.prog 35 #[.int .u32 x, .int .u64 22] w fun e w' => e = .returned (.int .u32 (rotF x 22)) ∧ w = w' := by
  have h : rotF x 22 = bits .or .u32 (x / 4194304) (x * 1024 % 4294967296) := rfl
  go_enter Tryd.func35, Tryd.ntmps35
  go_wp2
  go_ret
  exact ⟨by rw [h]; rfl, rfl⟩
set_option maxHeartbeats 400000 in
theorem rotr_25 (x : Int) (w : World) : Calls Tryd.prog 35 #[.int .u32 x, .int .u64 25] w fun e w' => e = .returned (.int .u32 (rotF x 25)) ∧ w = w' := by
  have h : rotF x 25 = bits .or .u32 (x / 33554432) (x * 128 % 4294967296) := rfl
  go_enter Tryd.func35, Tryd.ntmps35
  go_wp2
  go_ret
  exact ⟨by rw [h]; rfl, rfl⟩
end Go.Proofs.YtgehbfnfhjpjbaaDoor
