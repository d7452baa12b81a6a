/- What Unseal takes is what Seal gives: the plain law. -/
import Derived.Test.YtgehbfnfhjpjbaaDoorSupL
namespace Go.Proofs.YtgehbfnfhjpjbaaDoor
open Go.RowKit
set_option linter.unusedVariables false
set_option linter.unusedSimpArgs false
theorem be_numF : ∀ (n : Nat) (l : List Int), l.length = n → n ≤ 8 → Bytes l → be n (numF l) = l
  | 0, l, hl, _, _ => by rw [List.eq_nil_of_length_eq_zero hl]; simp [be]
  | n + 1, l, hl, hn, hb => by
    obtain ⟨l', b, rfl⟩ : ∃ l' b, l = l' ++ [b] := ⟨l.dropLast, l.getLast (by intro e; rw [e] at hl; simp at hl), (List.dropLast_concat_getLast _).symm⟩
    have hl' : l'.length = n := by simpa using hl
    have hb' : Bytes l' := fun x hx => hb x (by simp [hx])
    have h1 := numF_bound n l' hl' (by omega) hb'
    have h2 := hb b (by simp)
    have h3 := pow_le7 n (by omega)
    have e : be (n + 1) (numF l' * 256 + b) = be n (numF l') ++ [b] := by
      have e1 : (numF l' * 256 + b) / 256 = numF l' := by omega
      have e2 : (numF l' * 256 + b) % 256 = b := by omega
      unfold be
      rw [List.range_succ, List.map_append, List.map_singleton, show 8 * (n + 1 - 1 - n) = 0 by omega]
      congr 1
      · apply List.map_congr_left
        intro i hi
        have hi' : i < n := by simpa using hi
        rw [show 8 * (n + 1 - 1 - i) = 8 * (n - 1 - i) + 8 by omega, Int.pow_add, Int.mul_comm (2 ^ (8 * (n - 1 - i))), ← Int.ediv_ediv_of_nonneg (by omega), show (2 : Int) ^ 8 = 256 from rfl, e1]
      · simp [e2]
    rw [numF_snoc, numS_eq _ _ h1.1 (by omega) h2.1 h2.2, e, be_numF n l' hl' (by omega) hb']
theorem be_fld (xs : List Int) (p n : Nat) (hb : Bytes xs) (hn : n ≤ 8) (hp : p + n ≤ xs.length) : be n (fld xs p n) = (xs.drop p).take n :=
  be_numF n _ (by rw [List.length_take, List.length_drop]; omega) hn (hb.part p n)
theorem fields_of (xs : List Int) (hb : Bytes xs) (h8 : xs.take 8 = lettersL) (hl : 68 ≤ xs.length) : fieldsL (supOf xs) = xs.take 68 := by
  have hc : ∀ a b, xs.take (a + b) = xs.take a ++ (xs.drop a).take b := fun a b => List.take_add
  unfold fieldsL supOf
  dsimp only
  rw [be_fld xs 8 8 hb (by omega) (by omega), be_fld xs 16 4 hb (by omega) (by omega), be_fld xs 20 4 hb (by omega) (by omega), be_fld xs 24 4 hb (by omega) (by omega), be_fld xs 28 4 hb (by omega) (by omega), be_fld xs 32 8 hb (by omega) (by omega), be_fld xs 40 8 hb (by omega) (by omega), be_fld xs 48 8 hb (by omega) (by omega), be_fld xs 56 8 hb (by omega) (by omega), be_fld xs 64 4 hb (by omega) (by omega), ← h8]
  rw [← hc 8 8, ← hc 16 4, ← hc 20 4, ← hc 24 4, ← hc 28 4, ← hc 32 8, ← hc 40 8, ← hc 48 8, ← hc 56 8, ← hc 64 4]
/-- What Unseal takes. -/
theorem unF_ok (K : Nat → Int) (S : St) (xs : List Int) (s : Sup) (hb : Bytes xs) (h : unF K S xs = (s, 0)) : Fits s ∧ Kinds s ∧ xs = sealL K S s := by
  unfold unF at h
  by_cases hz : okSize (xs.length : Int)
  · rw [if_neg (fun h => h hz)] at h
    by_cases h8 : xs.take 8 = lettersL
    · rw [if_neg (fun h => h h8)] at h
      by_cases h32 : xs.drop (xs.length - 32) = shaF K S (xs.take (xs.length - 32))
      · rw [if_neg (fun h => h h32)] at h
        by_cases hG : Good xs
        · rw [if_neg (fun h => h hG)] at h
          simp only [Prod.mk.injEq, and_true] at h
          subst h
          obtain ⟨g1, g2, g3⟩ := hG
          have hn : 128 ≤ xs.length := by unfold okSize at hz; omega
          have hhead : headL (supOf xs) = xs.take (xs.length - 32) := by
            have e1 : (supOf xs).sz.toNat - 100 = xs.length - 100 := by rw [g2]; simp
            rw [headL, fields_of xs hb h8 (by omega), e1]
            rw [show xs.length - 32 = 68 + (xs.length - 100) by omega, List.take_add]
            congr 1
            apply List.ext_getElem
            · simp; omega
            · intro i h1 h2
              have h1' : i < xs.length - 100 := by simpa using h1
              have := g3 (68 + i) (by omega) (by omega)
              rw [List.getD_eq_getElem?_getD, List.getElem?_eq_getElem (by omega)] at this
              simp only [List.getElem_replicate, List.getElem_take, List.getElem_drop]
              exact this.symm
          have p8 : (256 : Int) ^ 8 = 18446744073709551616 := by decide
          have p4 : (256 : Int) ^ 4 = 4294967296 := by decide
          have b0 := fld_bound xs 8 8 hb (by omega) (by omega)
          have b1 := fld_bound xs 32 8 hb (by omega) (by omega)
          have b2 := fld_bound xs 40 8 hb (by omega) (by omega)
          have b3 := fld_bound xs 48 8 hb (by omega) (by omega)
          have b4 := fld_bound xs 56 8 hb (by omega) (by omega)
          have b5 := fld_bound xs 64 4 hb (by omega) (by omega)
          rw [p8] at b0 b1 b2 b3 b4
          rw [p4] at b5
          refine ⟨g1, ⟨b0, b1, b2, b3, b4, b5⟩, ?_⟩
          rw [sealL, hhead, ← h32, List.take_append_drop]
        · rw [if_pos hG] at h; simp at h
      · rw [if_pos h32] at h; simp at h
    · rw [if_pos h8] at h; simp at h
  · rw [if_pos hz] at h; simp at h
end Go.Proofs.YtgehbfnfhjpjbaaDoor
