/- The document's superblock, unsealed: the plain side and the results. -/
import Derived.Test.YtjcinelcocmpnaaDoorRefK
import Derived.Test.YtjcinelcocmpnaaDoorSupK
namespace Go.Proofs.YtjcinelcocmpnaaDoor
open Go.RowKit
set_option linter.unusedVariables false
set_option linter.unusedSimpArgs false
theorem run_results (tmps : Array Value) (w : World) (g : Nat) (s : Sup) (e : Int) (hp : tmps.getD 2 undef = .pointer (some ⟨g, 0, none⟩)) (hq : tmps.getD 3 undef = .int .i64 e)
    (H2 : Blk w g 27 s.arr) : (results Tryd.f17 tmps).run Tryd.prog w = .ok (.tuple #[.agg s.arr, .int .i64 e]) w := by
  have hp' : tmps[2]?.getD undef = .pointer (some ⟨g, 0, none⟩) := by simpa using hp
  have hq' : tmps[3]?.getD undef = .int .i64 e := by simpa using hq
  have d0 := H2.cell 0
  have d1 := H2.cell 1
  have d2 := H2.cell 2
  have d3 := H2.cell 3
  have d4 := H2.cell 4
  have d5 := H2.cell 5
  have d6 := H2.cell 6
  have d7 := H2.cell 7
  have d8 := H2.cell 8
  have d9 := H2.cell 9
  simp only [Sup.arr, List.getElem?_toArray, List.getElem?_cons_zero, List.getElem?_cons_succ] at d0 d1 d2 d3 d4 d5 d6 d7 d8 d9
  simp [results, Tryd.results17, hp', hq', asAddr, go_sem, d0, d1, d2, d3, d4, d5, d6, d7, d8, d9, Sup.arr]
theorem letters_take (xs : List Int) (hn : 8 ≤ xs.length) (h : ∀ t, t < 8 → xs.getD t 0 = lettersL.getD t 0) : xs.take 8 = lettersL := by
  apply List.ext_getElem?
  intro i
  by_cases hi : i < 8
  · rw [List.getElem?_take, if_pos hi]
    have := h i hi
    rw [List.getD_eq_getElem?_getD, List.getD_eq_getElem?_getD, List.getElem?_eq_getElem (by omega), List.getElem?_eq_getElem (by show i < 8; exact hi)] at this
    rw [List.getElem?_eq_getElem (by omega), List.getElem?_eq_getElem (by show i < 8; exact hi)]
    exact congrArg some this
  · rw [List.getElem?_eq_none (by rw [List.length_take]; omega), List.getElem?_eq_none (by show 8 ≤ i; omega)]
theorem letters_take_ne (xs : List Int) (t : Nat) (ht : t < 8) (h : xs.getD t 0 ≠ lettersL.getD t 0) : xs.take 8 ≠ lettersL := by
  intro e
  apply h
  rw [← e, List.getD_eq_getElem?_getD, List.getD_eq_getElem?_getD, List.getElem?_take, if_pos ht]
theorem tail_eq (xs dg : List Int) (hd : dg.length = 32) (hn : 32 ≤ xs.length) (h : ∀ t, t < 32 → xs.getD (xs.length - 32 + t) 0 = dg.getD t 0) : xs.drop (xs.length - 32) = dg := by
  apply List.ext_getElem?
  intro i
  rw [List.getElem?_drop]
  by_cases hi : i < 32
  · have := h i hi
    rw [List.getD_eq_getElem?_getD, List.getD_eq_getElem?_getD, List.getElem?_eq_getElem (by omega), List.getElem?_eq_getElem (by omega)] at this
    rw [List.getElem?_eq_getElem (by omega), List.getElem?_eq_getElem (by omega)]
    exact congrArg some this
  · rw [List.getElem?_eq_none (by omega), List.getElem?_eq_none (by omega)]
theorem tail_ne (xs dg : List Int) (t : Nat) (h : xs.getD (xs.length - 32 + t) 0 ≠ dg.getD t 0) : xs.drop (xs.length - 32) ≠ dg := by
  intro e
  apply h
  rw [← e, List.getD_eq_getElem?_getD, List.getD_eq_getElem?_getD, List.getElem?_drop]
theorem supOf_kinds (xs : List Int) (hb : Bytes xs) (hn : 100 ≤ xs.length) : Kinds (supOf xs) := by
  have k0 := fld_bound xs 8 8 hb (by omega) (by omega)
  have k1 := fld_bound xs 32 8 hb (by omega) (by omega)
  have k2 := fld_bound xs 40 8 hb (by omega) (by omega)
  have k3 := fld_bound xs 48 8 hb (by omega) (by omega)
  have k4 := fld_bound xs 56 8 hb (by omega) (by omega)
  have k5 := fld_bound xs 64 4 hb (by omega) (by omega)
  have e8 : (256 : Int) ^ 8 = 18446744073709551616 := by decide
  have e4 : (256 : Int) ^ 4 = 4294967296 := by decide
  rw [e8] at k0 k1 k2 k3 k4
  rw [e4] at k5
  exact ⟨k0, k1, k2, k3, k4, k5⟩
/-- Head of what was read, against what was read. -/
theorem head_back (xs : List Int) (hb : Bytes xs) (h8 : xs.take 8 = lettersL) (hl : 100 ≤ xs.length) (j : Nat) : (headL (supOf xs)).getD j 0 = if j < 68 then xs.getD j 0 else 0 := by
  by_cases h : j < 68
  · rw [if_pos h, headL_at, fields_of xs hb h8 (by omega), List.getD_eq_getElem?_getD, List.getD_eq_getElem?_getD, List.getElem?_take, if_pos h]
  · rw [if_neg h, head_behind _ _ (by omega)]
theorem unF_51 {K : Nat → Int} {S : St} {xs : List Int} (hz : okSize xs.length) (h8 : xs.take 8 ≠ lettersL) : unF K S xs = (sup0, 51) := by
  unfold unF; rw [if_neg (fun h => h hz), if_pos h8]
theorem unF_52 {K : Nat → Int} {S : St} {xs : List Int} (hz : okSize xs.length) (h8 : xs.take 8 = lettersL) (h : xs.drop (xs.length - 32) ≠ shaF K S (xs.take (xs.length - 32))) : unF K S xs = (sup0, 52) := by
  unfold unF; rw [if_neg (fun h => h hz), if_neg (fun h => h h8), if_pos h]
theorem unF_53 {K : Nat → Int} {S : St} {xs : List Int} (hz : okSize xs.length) (h8 : xs.take 8 = lettersL) (h : xs.drop (xs.length - 32) = shaF K S (xs.take (xs.length - 32))) (hg : ¬ Good xs) : unF K S xs = (sup0, 53) := by
  unfold unF; rw [if_neg (fun h => h hz), if_neg (fun h => h h8), if_neg (fun g => g h), if_pos hg]
theorem unF_0 {K : Nat → Int} {S : St} {xs : List Int} (hz : okSize xs.length) (h8 : xs.take 8 = lettersL) (h : xs.drop (xs.length - 32) = shaF K S (xs.take (xs.length - 32))) (hg : Good xs) : unF K S xs = (supOf xs, 0) := by
  unfold unF; rw [if_neg (fun h => h hz), if_neg (fun h => h h8), if_neg (fun g => g h), if_neg (fun g => g hg)]
/-- A number under way, one byte more. -/
theorem fld_next (xs : List Int) (p q : Nat) (hb : Bytes xs) (hq : q < 8) (hp : p + q < xs.length) : fld xs p (q + 1) = fld xs p q * 256 + xs.getD (p + q) 0 := by
  have h1 := fld_bound xs p q hb (by omega) (by omega)
  have h2 := hb.at (p + q)
  have h3 := pow_le7 q (by omega)
  unfold fld at h1 ⊢
  rw [take_next xs p q (by omega), numF_snoc, numS_eq _ _ h1.1 (by omega) h2.1 h2.2]
theorem fld_zero (xs : List Int) (p : Nat) : fld xs p 0 = 0 := by unfold fld; rw [List.take_zero]; rfl
end Go.Proofs.YtjcinelcocmpnaaDoor
