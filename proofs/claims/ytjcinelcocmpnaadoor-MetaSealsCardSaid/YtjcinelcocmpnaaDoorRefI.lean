/- The document's head of a superblock: the plain side. -/
import Derived.Test.YtjcinelcocmpnaaDoorRefG
namespace Go.Proofs.YtjcinelcocmpnaaDoor
open Go.RowKit
set_option linter.unusedVariables false
set_option linter.unusedSimpArgs false
theorem getD_mid (A B C : List Int) (p i : Nat) (hp : A.length = p) (hi : i < B.length) : (A ++ (B ++ C)).getD (p + i) 0 = B.getD i 0 := by
  simp only [List.getD_eq_getElem?_getD]
  rw [List.getElem?_append_right (by omega), show p + i - A.length = i by omega, List.getElem?_append_left hi]
theorem fieldsL_field (s : Sup) (k : Nat) (hk : k < 10) : ∃ A C, fieldsL s = A ++ (be (wdN k) (s.nums.getD k 0) ++ C) ∧ A.length = plN k := by
  have : k = 0 ∨ k = 1 ∨ k = 2 ∨ k = 3 ∨ k = 4 ∨ k = 5 ∨ k = 6 ∨ k = 7 ∨ k = 8 ∨ k = 9 := by omega
  unfold fieldsL
  rcases this with rfl | rfl | rfl | rfl | rfl | rfl | rfl | rfl | rfl | rfl
  · exact ⟨lettersL, be 4 s.bl ++ be 4 s.sz ++ be 4 s.sl ++ be 4 s.mr ++ be 8 s.cu ++ be 8 s.bm ++ be 8 s.o1 ++ be 8 s.o2 ++ be 4 s.fl, by simp [wdN, Sup.nums, List.append_assoc], rfl⟩
  · exact ⟨lettersL ++ be 8 s.sq, be 4 s.sz ++ be 4 s.sl ++ be 4 s.mr ++ be 8 s.cu ++ be 8 s.bm ++ be 8 s.o1 ++ be 8 s.o2 ++ be 4 s.fl, by simp [wdN, Sup.nums, List.append_assoc], by simp [be_length, plN, wdN, lettersL]⟩
  · exact ⟨lettersL ++ be 8 s.sq ++ be 4 s.bl, be 4 s.sl ++ be 4 s.mr ++ be 8 s.cu ++ be 8 s.bm ++ be 8 s.o1 ++ be 8 s.o2 ++ be 4 s.fl, by simp [wdN, Sup.nums, List.append_assoc], by simp [be_length, plN, wdN, lettersL]⟩
  · exact ⟨lettersL ++ be 8 s.sq ++ be 4 s.bl ++ be 4 s.sz, be 4 s.mr ++ be 8 s.cu ++ be 8 s.bm ++ be 8 s.o1 ++ be 8 s.o2 ++ be 4 s.fl, by simp [wdN, Sup.nums, List.append_assoc], by simp [be_length, plN, wdN, lettersL]⟩
  · exact ⟨lettersL ++ be 8 s.sq ++ be 4 s.bl ++ be 4 s.sz ++ be 4 s.sl, be 8 s.cu ++ be 8 s.bm ++ be 8 s.o1 ++ be 8 s.o2 ++ be 4 s.fl, by simp [wdN, Sup.nums, List.append_assoc], by simp [be_length, plN, wdN, lettersL]⟩
  · exact ⟨lettersL ++ be 8 s.sq ++ be 4 s.bl ++ be 4 s.sz ++ be 4 s.sl ++ be 4 s.mr, be 8 s.bm ++ be 8 s.o1 ++ be 8 s.o2 ++ be 4 s.fl, by simp [wdN, Sup.nums, List.append_assoc], by simp [be_length, plN, wdN, lettersL]⟩
  · exact ⟨lettersL ++ be 8 s.sq ++ be 4 s.bl ++ be 4 s.sz ++ be 4 s.sl ++ be 4 s.mr ++ be 8 s.cu, be 8 s.o1 ++ be 8 s.o2 ++ be 4 s.fl, by simp [wdN, Sup.nums, List.append_assoc], by simp [be_length, plN, wdN, lettersL]⟩
  · exact ⟨lettersL ++ be 8 s.sq ++ be 4 s.bl ++ be 4 s.sz ++ be 4 s.sl ++ be 4 s.mr ++ be 8 s.cu ++ be 8 s.bm, be 8 s.o2 ++ be 4 s.fl, by simp [wdN, Sup.nums, List.append_assoc], by simp [be_length, plN, wdN, lettersL]⟩
  · exact ⟨lettersL ++ be 8 s.sq ++ be 4 s.bl ++ be 4 s.sz ++ be 4 s.sl ++ be 4 s.mr ++ be 8 s.cu ++ be 8 s.bm ++ be 8 s.o1, be 4 s.fl, by simp [wdN, Sup.nums, List.append_assoc], by simp [be_length, plN, wdN, lettersL]⟩
  · exact ⟨lettersL ++ be 8 s.sq ++ be 4 s.bl ++ be 4 s.sz ++ be 4 s.sl ++ be 4 s.mr ++ be 8 s.cu ++ be 8 s.bm ++ be 8 s.o1 ++ be 8 s.o2, [], by simp [wdN, Sup.nums, List.append_assoc], by simp [be_length, plN, wdN, lettersL]⟩
/-- A byte of a field. -/
theorem head_field (s : Sup) (k i : Nat) (hk : k < 10) (hi : i < wdN k) : (headL s).getD (plN k + i) 0 = s.nums.getD k 0 / 2 ^ (8 * (wdN k - 1 - i)) % 256 := by
  obtain ⟨A, C, h, hl⟩ := fieldsL_field s k hk
  rw [headL_at, h, getD_mid A _ C _ i hl (by rw [be_length]; exact hi), be_at _ _ _ hi]
theorem head_letter (s : Sup) (i : Nat) (hi : i < 8) : (headL s).getD i 0 = lettersL.getD i 0 := by
  rw [headL_at]
  unfold fieldsL
  simp only [List.append_assoc, List.getD_eq_getElem?_getD]
  rw [List.getElem?_append_left (by exact hi)]
theorem head_behind (s : Sup) (j : Nat) (hj : 68 ≤ j) : (headL s).getD j 0 = 0 := by
  rw [headL_at, List.getD_eq_getElem?_getD, List.getElem?_eq_none (by rw [fieldsL_length]; exact hj)]; rfl
end Go.Proofs.YtjcinelcocmpnaaDoor
