/- A superblock comes back: the plain law; Unseal in one contract. -/
import Derived.Test.YtgehbfnfhjpjbaaDoorSupI
namespace Go.Proofs.YtgehbfnfhjpjbaaDoor
open Go.RowKit
set_option linter.unusedVariables false
set_option linter.unusedSimpArgs false
theorem unseal_ok (K : Nat → Int) (S : St) (v : Value) (xs : List Int) (w : World) (hT : Tab K S w) (hr : Rd .u8 w v xs) (hb : Bytes xs) :
    Calls Tryd.prog 24 #[v] w (UnQ (unF K S xs) w) := by
  unfold unF
  by_cases hz : okSize xs.length
  · rw [if_neg (fun h => h hz)]
    rcases hr with ⟨rfl, _⟩ | ⟨b, off, c, rfl, h1, h2, h3, h4⟩
    · exact absurd hz (by unfold okSize; simp)
    · by_cases h8 : xs.take 8 = lettersL
      · rw [if_neg (fun h => h h8)]
        by_cases h32 : xs.drop (xs.length - 32) = shaF K S (xs.take (xs.length - 32))
        · rw [if_neg (fun h => h h32)]
          refine (unseal_good K S xs b off c w hT hz h2 h3 h4 hb h8 h32).mono fun e w' h => ?_
          by_cases hG : Good xs
          · rw [if_neg (fun h => h hG)]
            rcases h with ⟨_, h⟩ | ⟨h, _⟩
            · exact h
            · exact absurd hG h
          · rw [if_pos hG]
            rcases h with ⟨h, _⟩ | ⟨_, h⟩
            · exact absurd h hG
            · exact h
        · rw [if_pos h32]
          exact unseal_seal K S xs b off c w hT hz h2 h3 h4 hb h8 h32
      · rw [if_pos h8]
        exact unseal_magic xs b off c w hz h2 h3 h4 hb h8
  · rw [if_pos hz]
    obtain ⟨A, c, rfl⟩ := hr.slice
    exact unseal_size xs.length A c w hz
theorem part_at (A B C : List Int) (p n : Nat) (hp : A.length = p) (hn : B.length = n) : ((A ++ (B ++ C)).drop p).take n = B := by
  rw [List.drop_append_of_le_length (by omega), List.drop_eq_nil_of_le (by omega), List.nil_append, List.take_append_of_le_length (by omega), List.take_of_length_le (by omega)]
/-- Each number is of its kind. -/
def Kinds (s : Sup) : Prop := (0 ≤ s.sq ∧ s.sq < 18446744073709551616) ∧ (0 ≤ s.cu ∧ s.cu < 18446744073709551616) ∧ (0 ≤ s.bm ∧ s.bm < 18446744073709551616) ∧ (0 ≤ s.o1 ∧ s.o1 < 18446744073709551616) ∧ (0 ≤ s.o2 ∧ s.o2 < 18446744073709551616) ∧ 0 ≤ s.fl ∧ s.fl < 4294967296
theorem fld_part (l A B C : List Int) (p n : Nat) (x : Int) (hl : l = A ++ (B ++ C)) (hp : A.length = p) (hB : B = be n x) (hn : n ≤ 8) (h0 : 0 ≤ x) (h1 : x < 256 ^ n) : fld l p n = x := by
  unfold fld
  rw [hl, part_at A B C p n hp (by rw [hB, be_length]), hB, numF_be n x hn h0 h1]
theorem supOf_seal (K : Nat → Int) (S : St) (s : Sup) (hf : Fits s) (hk : Kinds s) : supOf (sealL K S s) = s := by
  obtain ⟨sq, bl, sz, sl, cu, bm, o1, o2, fl, mr⟩ := s
  obtain ⟨f1, f2, f3, f4, f5, f6, f7, f8, f9, f10⟩ := hf
  obtain ⟨⟨k1, k2⟩, ⟨k3, k4⟩, ⟨k5, k6⟩, ⟨k7, k8⟩, ⟨k9, k10⟩, k11, k12⟩ := hk
  simp only at f1 f2 f3 f4 f5 f6 f7 f8 f9 f10 k1 k2 k3 k4 k5 k6 k7 k8 k9 k10 k11 k12
  have hs : 0 ≤ sz ∧ sz ≤ 1024 := by unfold okSize at f5; omega
  have p8 : (256 : Int) ^ 8 = 18446744073709551616 := by decide
  have p4 : (256 : Int) ^ 4 = 4294967296 := by decide
  obtain ⟨T, hT⟩ : ∃ T, T = List.replicate (sz.toNat - 100) (0 : Int) ++ shaF K S (headL ⟨sq, bl, sz, sl, cu, bm, o1, o2, fl, mr⟩) := ⟨_, rfl⟩
  have hS : sealL K S ⟨sq, bl, sz, sl, cu, bm, o1, o2, fl, mr⟩ = lettersL ++ (be 8 sq ++ (be 4 bl ++ (be 4 sz ++ (be 4 sl ++ (be 4 mr ++ (be 8 cu ++ (be 8 bm ++ (be 8 o1 ++ (be 8 o2 ++ (be 4 fl ++ T)))))))))) := by
    rw [sealL, hT]; conv => lhs; arg 1; unfold headL fieldsL
    simp only [List.append_assoc]
  rw [hS]
  have e1 : lettersL.length = 8 := rfl
  unfold supOf
  rw [fld_part _ lettersL (be 8 sq) _ 8 8 sq rfl rfl rfl (by omega) k1 (by omega)]
  rw [fld_part _ (lettersL ++ be 8 sq) (be 4 bl) _ 16 4 bl (by simp only [List.append_assoc]; rfl) (by simp [be_length, e1]) rfl (by omega) (by omega) (by omega)]
  rw [fld_part _ (lettersL ++ be 8 sq ++ be 4 bl) (be 4 sz) _ 20 4 sz (by simp only [List.append_assoc]; rfl) (by simp [be_length, e1]) rfl (by omega) (by omega) (by omega)]
  rw [fld_part _ (lettersL ++ be 8 sq ++ be 4 bl ++ be 4 sz) (be 4 sl) _ 24 4 sl (by simp only [List.append_assoc]; rfl) (by simp [be_length, e1]) rfl (by omega) (by omega) (by omega)]
  rw [fld_part _ (lettersL ++ be 8 sq ++ be 4 bl ++ be 4 sz ++ be 4 sl) (be 4 mr) _ 28 4 mr (by simp only [List.append_assoc]; rfl) (by simp [be_length, e1]) rfl (by omega) (by omega) (by omega)]
  rw [fld_part _ (lettersL ++ be 8 sq ++ be 4 bl ++ be 4 sz ++ be 4 sl ++ be 4 mr) (be 8 cu) _ 32 8 cu (by simp only [List.append_assoc]; rfl) (by simp [be_length, e1]) rfl (by omega) (by omega) (by omega)]
  rw [fld_part _ (lettersL ++ be 8 sq ++ be 4 bl ++ be 4 sz ++ be 4 sl ++ be 4 mr ++ be 8 cu) (be 8 bm) _ 40 8 bm (by simp only [List.append_assoc]; rfl) (by simp [be_length, e1]) rfl (by omega) (by omega) (by omega)]
  rw [fld_part _ (lettersL ++ be 8 sq ++ be 4 bl ++ be 4 sz ++ be 4 sl ++ be 4 mr ++ be 8 cu ++ be 8 bm) (be 8 o1) _ 48 8 o1 (by simp only [List.append_assoc]; rfl) (by simp [be_length, e1]) rfl (by omega) (by omega) (by omega)]
  rw [fld_part _ (lettersL ++ be 8 sq ++ be 4 bl ++ be 4 sz ++ be 4 sl ++ be 4 mr ++ be 8 cu ++ be 8 bm ++ be 8 o1) (be 8 o2) _ 56 8 o2 (by simp only [List.append_assoc]; rfl) (by simp [be_length, e1]) rfl (by omega) (by omega) (by omega)]
  rw [fld_part _ (lettersL ++ be 8 sq ++ be 4 bl ++ be 4 sz ++ be 4 sl ++ be 4 mr ++ be 8 cu ++ be 8 bm ++ be 8 o1 ++ be 8 o2) (be 4 fl) T 64 4 fl (by simp only [List.append_assoc]) (by simp [be_length, e1]) rfl (by omega) (by omega) (by omega)]
theorem seal_take (K : Nat → Int) (S : St) (s : Sup) (h : okSize s.sz) : (sealL K S s).take ((sealL K S s).length - 32) = headL s := by
  have h1 := sealL_length K S s h
  have h2 := headL_length s h
  have h3 : okSize s.sz → 128 ≤ s.sz.toNat := by unfold okSize; omega
  rw [h1, ← h2, sealL, List.take_append_of_le_length (by omega), List.take_of_length_le (by omega)]
theorem seal_drop (K : Nat → Int) (S : St) (s : Sup) (h : okSize s.sz) : (sealL K S s).drop ((sealL K S s).length - 32) = shaF K S (headL s) := by
  have h1 := sealL_length K S s h
  have h2 := headL_length s h
  rw [h1, ← h2, sealL, List.drop_append_of_le_length (by omega), List.drop_eq_nil_of_le (by omega), List.nil_append]
theorem headL_bytes (s : Sup) : Bytes (headL s) := by
  intro x hx
  simp only [headL, fieldsL, List.mem_append, List.mem_replicate] at hx
  rcases hx with (((((((((((hx | hx) | hx) | hx) | hx) | hx) | hx) | hx) | hx) | hx) | hx) | ⟨_, rfl⟩)
  · simp only [lettersL, List.mem_cons, List.not_mem_nil, or_false] at hx; omega
  all_goals first | exact be_bytes _ _ x hx | omega
theorem sealL_bytes (K : Nat → Int) (S : St) (s : Sup) : Bytes (sealL K S s) := by
  intro x hx
  rcases List.mem_append.1 hx with hx | hx
  · exact headL_bytes s x hx
  · exact shaF_byte K S _ x hx
theorem unF_seal (K : Nat → Int) (S : St) (s : Sup) (hf : Fits s) (hk : Kinds s) : unF K S (sealL K S s) = (s, 0) := by
  have h5 := hf.2.2.2.2.1
  have hl := sealL_length K S s h5
  have hz : okSize ((sealL K S s).length : Int) := by rw [hl]; unfold okSize at h5 ⊢; omega
  have h8 : (sealL K S s).take 8 = lettersL := by
    unfold sealL headL fieldsL
    simp only [List.append_assoc]
    rw [List.take_append_of_le_length (by show 8 ≤ 8; omega)]
    rfl
  have hG : Good (sealL K S s) := by
    refine ⟨by rw [supOf_seal K S s hf hk]; exact hf, by rw [supOf_seal K S s hf hk, hl]; unfold okSize at h5; omega, fun i h1 h2 => ?_⟩
    have h3 := headL_length s h5
    rw [sealL, List.getD_eq_getElem?_getD, List.getElem?_append_left (by omega), ← List.getD_eq_getElem?_getD, headL_at, List.getD_eq_getElem?_getD, List.getElem?_eq_none (by rw [fieldsL_length]; omega)]
    rfl
  unfold unF
  rw [if_neg (fun h => h hz), if_neg (fun h => h h8), if_neg (fun h => h (by rw [seal_drop K S s h5, seal_take K S s h5])), if_neg (fun h => h hG), supOf_seal K S s hf hk]
end Go.Proofs.YtgehbfnfhjpjbaaDoor
