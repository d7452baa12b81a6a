/- MetaSpoilt: what Unseal says of a spoilt block. -/
import Derived.Test.YtjcinelcocmpnaaDoorSupK
namespace Go.Proofs.YtjcinelcocmpnaaDoor
open Go.RowKit
set_option linter.unusedVariables false
set_option linter.unusedSimpArgs false
theorem sp_letters (K : Nat → Int) (S : St) (zs : List Int) (hz : okSize zs.length) (h8 : zs.take 8 ≠ lettersL) : (unF K S zs).2 = 51 := by
  unfold unF; rw [if_neg (fun h => h hz), if_pos h8]
theorem sp_seal (K : Nat → Int) (S : St) (zs : List Int) (hz : okSize zs.length) (h8 : zs.take 8 = lettersL) (hd : zs.drop (zs.length - 32) ≠ shaF K S (zs.take (zs.length - 32))) : (unF K S zs).2 = 52 := by
  unfold unF; rw [if_neg (fun h => h hz), if_neg (fun h => h h8), if_pos hd]
theorem sp_rest (K : Nat → Int) (S : St) (zs : List Int) (hz : okSize zs.length) (h8 : zs.take 8 = lettersL) (hd : zs.drop (zs.length - 32) = shaF K S (zs.take (zs.length - 32))) : (unF K S zs).2 = 0 ∨ (unF K S zs).2 = 53 := by
  unfold unF; rw [if_neg (fun h => h hz), if_neg (fun h => h h8), if_neg (fun h => h hd)]
  by_cases hg : Good zs
  · rw [if_neg (fun h => h hg)]; exact .inl rfl
  · rw [if_pos hg]; exact .inr rfl
theorem seal_letters (K : Nat → Int) (S : St) (s : Sup) : (sealL K S s).take 8 = lettersL := by
  unfold sealL headL fieldsL lettersL
  simp [List.take_append]
theorem take_take8 (l : List Int) (n : Nat) (h : 8 ≤ n) : (l.take n).take 8 = l.take 8 := by rw [List.take_take]; congr 1; omega
/-- The spoilt block, its first part as it was: what Unseal says tells whether the rest is as it was. -/
theorem sp_same (K : Nat → Int) (S : St) (s : Sup) (zs : List Int) (hf : Fits s) (hk : Kinds s) (hl : zs.length = (sealL K S s).length) (ht : (sealL K S s).take ((sealL K S s).length - 32) = zs.take ((sealL K S s).length - 32)) :
    (sealL K S s = zs ∧ (unF K S zs).2 = 0) ∨ (sealL K S s ≠ zs ∧ (unF K S zs).2 = 52) := by
  have h5 := hf.2.2.2.2.1
  have hlen := sealL_length K S s h5
  have hN : 128 ≤ (sealL K S s).length := by unfold okSize at h5; omega
  have hz : okSize (zs.length : Int) := by rw [hl, hlen]; unfold okSize at h5 ⊢; omega
  by_cases he : sealL K S s = zs
  · left; refine ⟨he, ?_⟩; rw [← he, unF_seal K S s hf hk]
  · right
    refine ⟨he, sp_seal K S zs hz ?_ ?_⟩
    · rw [← take_take8 zs ((sealL K S s).length - 32) (by omega), ← ht, take_take8 _ _ (by omega), seal_letters]
    · intro hd
      apply he
      rw [hl, ← ht, seal_take K S s h5, ← seal_drop K S s h5] at hd
      rw [← List.take_append_drop ((sealL K S s).length - 32) (sealL K S s), ht, ← hd, List.take_append_drop]
theorem xor_byte (x y : Int) : 0 ≤ bits .xor .u8 x y ∧ bits .xor .u8 x y < 256 := by
  rw [bits, IntKind.wrap_u8]; omega
end Go.Proofs.YtjcinelcocmpnaaDoor
