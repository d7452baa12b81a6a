/- What Through has written stands: DiskThrough. -/
import Derived.Test.YtigfcoibbmndpaaLwI
import Derived.Outline
namespace Go.Proofs.Ytigfcoibbmndpaa
open Go.RowKit
open Go.ChangeMaps
set_option linter.unusedVariables false
set_option linter.unusedSimpArgs false
/-- Block k holds xs durably, can be read, and has no cached writes. -/
structure Held (s : DSt) (k : Nat) (xs : List Int) : Prop where
  du : s.dur k = xs
  sp : s.sp k = false
  ca : s.ca k = []
theorem Held.same {s t : DSt} {k : Nat} {xs : List Int} (h : Held s k xs) (h1 : t.dur = s.dur) (h2 : t.sp = s.sp) (h3 : t.ca = s.ca) : Held t k xs :=
  ⟨by rw [h1]; exact h.du, by rw [h2]; exact h.sp, by rw [h3]; exact h.ca⟩
theorem Held.step {s : DSt} {k : Nat} {xs : List Int} (h : Held s k xs) : Held (stepS s) k xs :=
  h.same (stepS_same s).2.2.1 (stepS_same s).2.2.2.1 (stepS_same s).2.2.2.2
theorem Held.all {s : DSt} {k : Nat} {xs : List Int} (h : Held s k xs) (keep : Nat → Nat) (h0 : keep k = 0) : Held (allS s keep) k xs := by
  refine ⟨?_, ?_, ?_⟩
  · show (if _ then _ else _) = xs
    rw [if_pos (.inr h0)]; exact h.du
  · show (if _ then _ else _) = false
    rw [if_pos (.inr h0)]; exact h.sp
  · rfl
theorem Held.push {s : DSt} {k j : Nat} {xs ys : List Int} (h : Held s k xs) (hj : k ≠ j) : Held (pushS s j ys) k xs := by
  refine ⟨h.du, h.sp, ?_⟩
  show pushC s.ca j ys k = []
  unfold pushC; rw [if_neg hj]; exact h.ca
theorem Held.thru {s : DSt} {k j : Nat} {xs ys : List Int} (h : Held s k xs) (hj : k ≠ j) : Held (thruS s j ys) k xs := by
  refine ⟨?_, ?_, ?_⟩
  · show layD s.dur j ys k = xs
    unfold layD; rw [if_neg hj]; exact h.du
  · show clrS s.sp j k = false
    unfold clrS; rw [if_neg hj]; exact h.sp
  · show dropC s.ca j k = []
    unfold dropC; rw [if_neg hj]; exact h.ca
theorem held_thru (s : DSt) (k : Nat) (xs : List Int) : Held (thruS s k xs) k xs := by
  refine ⟨?_, ?_, ?_⟩
  · show layD s.dur k xs k = xs
    unfold layD; rw [if_pos rfl]
  · show clrS s.sp k k = false
    unfold clrS; rw [if_pos rfl]
  · show dropC s.ca k k = []
    unfold dropC; rw [if_pos rfl]
theorem Held.zero {k : Nat} {xs zs : List Int} : ∀ (n : Nat) (s : DSt) (j : Nat), k < j → Held s k xs → Held (zeroRun zs n s j).1 k xs := by
  intro n
  induction n with
  | zero => intro s j _ h; exact h
  | succ n ih =>
    intro s j hj h
    simp only [zeroRun]
    split
    · exact ih _ _ (by omega) (h.step.push (by omega))
    · exact h.step
/-- Might the call change what lies in the block? -/
def touchB (o : OpV) (k : Nat) : Bool := if o.kind = 2 ∨ o.kind = 3 ∨ o.kind = 10 then decide (o.blk = k) else if o.kind = 4 then decide (o.blk ≤ k) else false
theorem wr_in {s : DSt} {j : Int} {n : Nat} (h : ¬ (wrE s j n ≠ 0)) : s.inr j := by
  by_cases hj : s.inr j
  · exact hj
  · exfalso; apply h; unfold wrE; rw [if_neg hj]; decide
theorem held_keepK {s : DSt} {k : Nat} {xs : List Int} (h : Held s k xs) (ps : List Int) : keepK s ps k = 0 := by
  unfold keepK
  rw [h.ca]
  have := keepP_le ps k 0
  exact Nat.le_zero.1 this
theorem Held.crash {s : DSt} {k : Nat} {xs : List Int} (h : Held s k xs) (ps : List Int) : Held (crashS s ps) k xs :=
  (h.all (keepK s ps) (held_keepK h ps)).same rfl rfl rfl
theorem Held.call {s : DSt} {k : Nat} {xs : List Int} (h : Held s k xs) (o : OpV) (ht : touchB o k = false) : Held (callS s o) k xs := by
  have t2 : (o.kind = 2 ∨ o.kind = 3 ∨ o.kind = 10) → o.blk ≠ k := fun hk => by
    unfold touchB at ht; rw [if_pos hk] at ht; simpa using ht
  have t4 : o.kind = 4 → (k : Int) < o.blk := fun hk => by
    unfold touchB at ht; rw [if_neg (by omega), if_pos hk] at ht; simpa using ht
  unfold callS
  split
  · unfold readS; split
    · exact h.same rfl rfl rfl
    · exact h
  split
  · rename_i hk
    unfold writeS; split
    · exact h
    · rename_i hw
      have hj := wr_in hw
      split
      · exact h.step.push (by have := t2 (.inl hk); have := hj.1; omega)
      · exact h.step
  split
  · rename_i hk
    unfold throughS; split
    · exact h
    · rename_i hw
      have hj := wr_in hw
      split
      · exact h.step.thru (by have := t2 (.inr (.inl hk)); have := hj.1; omega)
      · exact h.step
  split
  · rename_i hk
    have := t4 hk
    unfold zeroR; split
    · exact h
    split
    · exact h
    split
    · exact h
    · exact Held.zero _ _ _ (by omega) h
  split
  · unfold flushS; split
    · exact (h.step.all (lenK (stepS s)) (by unfold lenK; rw [h.step.ca]; rfl)).same rfl rfl rfl
    · exact h.step
  split
  · rename_i hk
    unfold spoilS; split
    · rename_i hj
      refine ⟨h.du, ?_, h.ca⟩
      show setS s.sp o.blk.toNat k = false
      unfold setS; rw [if_neg (by have := t2 (.inr (.inr hk)); have := hj.1; omega)]; exact h.sp
    · exact h
  split
  · exact h.same rfl rfl rfl
  split
  · exact h.crash _
  · exact h
/-- The calls that do not touch the block. -/
noncomputable def skipS (k : Nat) (s : DSt) (os : List OpV) : DSt := os.foldl (fun s o => if touchB o k = true then s else callS s o) s
theorem skipS_succ (k : Nat) (s : DSt) (os : List OpV) (i : Nat) (h : i < os.length) (d0 : OpV) : skipS k s (os.take (i + 1)) = if touchB (os.getD i d0) k = true then skipS k s (os.take i) else callS (skipS k s (os.take i)) (os.getD i d0) := by
  unfold skipS
  rw [List.take_add_one, List.foldl_append, List.getD_eq_getElem?_getD, List.getElem?_eq_getElem h]
  rfl
theorem skipS_facts (k : Nat) (xs : List Int) (os : List OpV) : ∀ s : DSt, (Held s k xs → Held (skipS k s os) k xs) ∧ (skipS k s os).nb = s.nb ∧ (skipS k s os).sz = s.sz ∧ ∀ j, ((skipS k s os).ca j).length ≤ (s.ca j).length + os.length := by
  induction os with
  | nil => intro s; exact ⟨fun h => h, rfl, rfl, fun j => Nat.le_refl _⟩
  | cons o os ih =>
    intro s
    by_cases ht : touchB o k = true
    · have e : skipS k s (o :: os) = skipS k s os := by unfold skipS; rw [List.foldl_cons, if_pos ht]
      rw [e]
      obtain ⟨h1, h2, h3, h4⟩ := ih s
      exact ⟨h1, h2, h3, fun j => by have := h4 j; rw [List.length_cons]; omega⟩
    · have e : skipS k s (o :: os) = skipS k (callS s o) os := by unfold skipS; rw [List.foldl_cons, if_neg ht]
      rw [e]
      obtain ⟨h1, h2, h3, h4⟩ := ih (callS s o)
      obtain ⟨g1, g2, g3⟩ := callS_grows s o
      exact ⟨fun h => h1 (h.call o (by simpa using ht)), h2.trans g1, h3.trans g2, fun j => by have := h4 j; have := g3 j; rw [List.length_cons]; omega⟩
end Go.Proofs.Ytigfcoibbmndpaa
