/- What a hash tells: the plain side. -/
import Derived.Test.YtgehbfnfhjpjbaaDoorShaF
namespace Go.Proofs.YtgehbfnfhjpjbaaDoor
open Go.RowKit
set_option linter.unusedVariables false
set_option linter.unusedSimpArgs false
/-- What is fed behind the message, ahead of its length. -/
def padL (held : Nat) : List Int := 128 :: List.replicate ((119 - held) % 64) 0
theorem padL_length (held : Nat) : (padL held).length = (119 - held) % 64 + 1 := by simp [padL]
/-- A number of 64 bits as bytes. -/
def tailL (b : Int) : List Int := (List.range 8).map fun i => b / 2 ^ (56 - 8 * i) % 256
theorem tailL_length (b : Int) : (tailL b).length = 8 := by simp [tailL]
theorem tailL_at (b : Int) (i : Nat) (h : i < 8) : (tailL b).getD i 0 = b / 2 ^ (56 - 8 * i) % 256 := by simp [tailL, h]
/-- The eight words as bytes. -/
def sumL (st : St) : List Int := (List.range 32).map fun i => st.list.getD (i / 4) 0 / 2 ^ (24 - 8 * (i % 4)) % 256
theorem sumL_length (st : St) : (sumL st).length = 32 := by simp [sumL]
theorem sumL_at (st : St) (i : Nat) (h : i < 32) : (sumL st).getD i 0 = st.list.getD (i / 4) 0 / 2 ^ (24 - 8 * (i % 4)) % 256 := by simp [sumL, h]
theorem sumL_byte (st : St) : ∀ x ∈ sumL st, 0 ≤ x ∧ x < 256 := by
  intro x hx
  simp only [sumL, List.mem_map] at hx
  obtain ⟨i, _, rfl⟩ := hx
  omega
/-- What Sum tells. -/
def sumF (K : Nat → Int) (s : St × List Int × Nat) (cnt : Int) : List Int := sumL (feed K (feed K s (padL s.2.2)) (tailL (cnt * 8 % 18446744073709551616))).1
theorem sumF_length (K : Nat → Int) (s : St × List Int × Nat) (cnt : Int) : (sumF K s cnt).length = 32 := sumL_length _
theorem feed_inv (K : Nat → Int) : ∀ (l : List Int) (s : St × List Int × Nat), s.2.1.length = 64 → s.2.2 < 64 → (feed K s l).2.1.length = 64 ∧ (feed K s l).2.2 < 64
  | [], s, h1, h2 => ⟨h1, h2⟩
  | x :: l, s, h1, h2 => by
    show (feed K (feed1 K s x) l).2.1.length = 64 ∧ (feed K (feed1 K s x) l).2.2 < 64
    refine feed_inv K l _ ?_ ?_
    · unfold feed1; split <;> simp [h1]
    · unfold feed1; split <;> simp; omega
/-- The beginning of a hash. -/
def zeroL : List Int := List.replicate 64 0
/-- The digest of a list of bytes. -/
def shaF (K : Nat → Int) (S : St) (xs : List Int) : List Int := sumF K (feed K (S, zeroL, 0) xs) ((0 + xs.length) % 18446744073709551616)
theorem shaF_length (K : Nat → Int) (S : St) (xs : List Int) : (shaF K S xs).length = 32 := sumF_length _ _ _
theorem shaF_byte (K : Nat → Int) (S : St) (xs : List Int) : ∀ x ∈ shaF K S xs, 0 ≤ x ∧ x < 256 := sumL_byte _
theorem hash_zero (st : St) : (hashL st zeroL 0 0) = [.int .u32 st.a, .int .u32 st.b, .int .u32 st.c, .int .u32 st.d, .int .u32 st.e, .int .u32 st.f, .int .u32 st.g, .int .u32 st.h] ++ List.replicate 64 (.int .u8 0) ++ [.int .i64 0, .int .u64 0] := by
  simp [hashL, St.list, zeroL]
set_option maxHeartbeats 1000000 in
set_option maxRecDepth 100000 in
theorem new_ok (S : St) (w : World) (hS : BlkG w 0 S.arr) :
    Calls Tryd.prog 26 #[] w fun e w' => e = .returned (.pointer (some ⟨w.heap.size, 0, none⟩)) ∧ w' = w.alloc (.cells (hashL S zeroL 0 0).toArray 100) := by
  have c0 := hS.cell 0
  have c1 := hS.cell 1
  have c2 := hS.cell 2
  have c3 := hS.cell 3
  have c4 := hS.cell 4
  have c5 := hS.cell 5
  have c6 := hS.cell 6
  have c7 := hS.cell 7
  simp only [St.arr, List.getElem?_toArray, List.getElem?_cons_zero, List.getElem?_cons_succ] at c0 c1 c2 c3 c4 c5 c6 c7
  have hz := hash_zero S
  have Hz := Lib.hid hz
  have hzero : ∀ w, (zeroValue 100).run Tryd.prog w = .ok (.agg #[.int .u32 0, .int .u32 0, .int .u32 0, .int .u32 0, .int .u32 0, .int .u32 0, .int .u32 0, .int .u32 0, .int .u8 0, .int .u8 0, .int .u8 0, .int .u8 0, .int .u8 0, .int .u8 0, .int .u8 0, .int .u8 0, .int .u8 0, .int .u8 0, .int .u8 0, .int .u8 0, .int .u8 0, .int .u8 0, .int .u8 0, .int .u8 0, .int .u8 0, .int .u8 0, .int .u8 0, .int .u8 0, .int .u8 0, .int .u8 0, .int .u8 0, .int .u8 0, .int .u8 0, .int .u8 0, .int .u8 0, .int .u8 0, .int .u8 0, .int .u8 0, .int .u8 0, .int .u8 0, .int .u8 0, .int .u8 0, .int .u8 0, .int .u8 0, .int .u8 0, .int .u8 0, .int .u8 0, .int .u8 0, .int .u8 0, .int .u8 0, .int .u8 0, .int .u8 0, .int .u8 0, .int .u8 0, .int .u8 0, .int .u8 0, .int .u8 0, .int .u8 0, .int .u8 0, .int .u8 0, .int .u8 0, .int .u8 0, .int .u8 0, .int .u8 0, .int .u8 0, .int .u8 0, .int .u8 0, .int .u8 0, .int .u8 0, .int .u8 0, .int .u8 0, .int .u8 0, .int .i64 0, .int .u64 0]) w := fun _ => by kernel_rfl
  clear hS hz
  go_enter Tryd.func26, Tryd.ntmps26
  go_wp2
  go_ret
  refine ⟨rfl, ?_⟩
  rw [Hz.out]
  rfl
end Go.Proofs.YtgehbfnfhjpjbaaDoor
