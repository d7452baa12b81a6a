/- A power that fails is a cut: the disk with a fuse and the disk that is given just those steps. -/
import Derived.Test.YtigfcoibbmndpaaLwT
import Derived.Outline
namespace Go.Proofs.Ytigfcoibbmndpaa
open Go.RowKit
open Go.ChangeMaps
set_option linter.unusedVariables false
set_option linter.unusedSimpArgs false
/-- Alike but for power, fuse and counts. -/
structure Base (s t : DSt) : Prop where
  nb : t.nb = s.nb
  sz : t.sz = s.sz
  du : t.dur = s.dur
  sp : t.sp = s.sp
  ca : t.ca = s.ca
/-- A disk whose fuse lets f steps through, beside one without a fuse. -/
structure Fus (s t : DSt) (f : Nat) : Prop where
  b : Base s t
  lt : Live t
  off : s.off = false
  fd : s.fused = true
  fu : s.fuse = f
/-- A disk whose power has failed, beside one whose power is on. -/
structure Cutt (s t : DSt) : Prop where
  b : Base s t
  lt : Live t
  off : s.off = true
theorem Base.push {s t s' t' : DSt} (h : Base s t) (hs : Base s s') (ht : Base t t') (k : Nat) (xs : List Int) : Base (pushS s' k xs) (pushS t' k xs) :=
  ⟨(ht.nb.trans h.nb).trans hs.nb.symm, (ht.sz.trans h.sz).trans hs.sz.symm, (ht.du.trans h.du).trans hs.du.symm, (ht.sp.trans h.sp).trans hs.sp.symm, by
    show pushC t'.ca k xs = pushC s'.ca k xs
    rw [ht.ca, h.ca, hs.ca]⟩
theorem Base.thru {s t s' t' : DSt} (h : Base s t) (hs : Base s s') (ht : Base t t') (k : Nat) (xs : List Int) : Base (thruS s' k xs) (thruS t' k xs) :=
  ⟨(ht.nb.trans h.nb).trans hs.nb.symm, (ht.sz.trans h.sz).trans hs.sz.symm, by
    show layD t'.dur k xs = layD s'.dur k xs
    rw [ht.du, h.du, hs.du], by
    show clrS t'.sp k = clrS s'.sp k
    rw [ht.sp, h.sp, hs.sp], by
    show dropC t'.ca k = dropC s'.ca k
    rw [ht.ca, h.ca, hs.ca]⟩
theorem Base.all {s t : DSt} (h : Base s t) (keep : Nat → Nat) : Base (allS s keep) (allS t keep) := by
  refine ⟨h.nb, h.sz, ?_, ?_, ?_⟩
  · unfold allS stS; dsimp only; rw [h.du, h.ca]
  · unfold allS stS; dsimp only; rw [h.sp]
  · unfold allS stS; dsimp only; rw [h.ca]
theorem Base.step (s : DSt) : Base s (stepS s) := ⟨(stepS_same s).1, (stepS_same s).2.1, (stepS_same s).2.2.1, (stepS_same s).2.2.2.1, (stepS_same s).2.2.2.2⟩
theorem Base.refl (s : DSt) : Base s s := ⟨rfl, rfl, rfl, rfl, rfl⟩
theorem Base.symm {s t : DSt} (h : Base s t) : Base t s := ⟨h.nb.symm, h.sz.symm, h.du.symm, h.sp.symm, h.ca.symm⟩
theorem Base.trans {s t u : DSt} (h : Base s t) (h2 : Base t u) : Base s u := ⟨h2.nb.trans h.nb, h2.sz.trans h.sz, h2.du.trans h.du, h2.sp.trans h.sp, h2.ca.trans h.ca⟩
theorem Base.flush {s t : DSt} (h : Base s t) : Base (flushC s) (flushC t) := by
  have e : lenK t = lenK s := by funext k; unfold lenK; rw [h.ca]
  have := h.all (lenK s)
  refine ⟨this.nb, this.sz, ?_, ?_, ?_⟩
  · show (allS t (lenK t)).dur = (allS s (lenK s)).dur
    rw [e]; exact this.du
  · show (allS t (lenK t)).sp = (allS s (lenK s)).sp
    rw [e]; exact this.sp
  · show (allS t (lenK t)).ca = (allS s (lenK s)).ca
    rw [e]; exact this.ca
theorem Base.crash {s t : DSt} (h : Base s t) (ps : List Int) : Alike (crashS s ps) (crashS t ps) := by
  have e : keepK t ps = keepK s ps := by funext k; unfold keepK; rw [h.ca]
  have := h.all (keepK s ps)
  refine ⟨this.nb, this.sz, ?_, ?_, ?_, rfl⟩
  · show (allS t (keepK t ps)).dur = (allS s (keepK s ps)).dur
    rw [e]; exact this.du
  · show (allS t (keepK t ps)).sp = (allS s (keepK s ps)).sp
    rw [e]; exact this.sp
  · show (allS t (keepK t ps)).ca = (allS s (keepK s ps)).ca
    rw [e]; exact this.ca
theorem Fus.more {s t : DSt} {f : Nat} (h : Fus s t (f + 1)) : stepB s = true ∧ stepS s = { s with fuse := s.fuse - 1 } ∧ stepB t = true ∧ stepS t = t := by
  have h0 : ¬ (s.fuse = 0) := by rw [h.fu]; omega
  obtain ⟨h1, h2⟩ := h.lt.step
  exact ⟨by unfold stepB; simp [h.off, h.fd, h0], by unfold stepS; simp [h.off, h.fd, h0], h2, h1⟩
theorem Fus.none {s t : DSt} (h : Fus s t 0) : stepB s = false ∧ stepS s = { s with off := true } := by
  have h0 : s.fuse = 0 := h.fu
  exact ⟨by unfold stepB; simp [h.off, h.fd, h0], by unfold stepS; simp [h.off, h.fd, h0]⟩
theorem Fus.push {s t : DSt} {f : Nat} (h : Fus s t (f + 1)) (k : Nat) (xs : List Int) : Fus (pushS (stepS s) k xs) (pushS (stepS t) k xs) f := by
  obtain ⟨_, h2, _, h4⟩ := h.more
  refine ⟨h.b.push (Base.step s) (Base.step t) k xs, ?_, ?_, ?_, ?_⟩
  · rw [h4]; exact h.lt
  · rw [h2]; exact h.off
  · rw [h2]; exact h.fd
  · rw [h2]; show s.fuse - 1 = f; rw [h.fu]; omega
theorem Fus.zeros (zs : List Int) : ∀ (n f : Nat) (s t : DSt) (k : Nat), Fus s t f → n ≤ f → Fus (zeroRun zs n s k).1 (zeroRun zs n t k).1 (f - n) ∧ (zeroRun zs n s k).2.1 = 0 ∧ (zeroRun zs n t k).2.1 = 0 := by
  intro n
  induction n with
  | zero => intro f s t k h _; exact ⟨h, rfl, rfl⟩
  | succ n ih =>
    intro f s t k h hn
    obtain ⟨f, rfl⟩ : ∃ g, f = g + 1 := ⟨f - 1, by omega⟩
    obtain ⟨h1, _, h3, _⟩ := h.more
    simp only [zeroRun]
    rw [if_pos h1, if_pos h3, show f + 1 - (n + 1) = f - n by omega]
    exact ih f _ _ _ (h.push k zs) (by omega)
theorem Fus.zerosCut (zs : List Int) : ∀ (f n : Nat) (s t : DSt) (k : Nat), Fus s t f → f < n → Cutt (zeroRun zs n s k).1 (zeroRun zs f t k).1 ∧ (zeroRun zs n s k).2.1 = 22 ∧ (zeroRun zs f t k).2.1 = 0 := by
  intro f
  induction f with
  | zero =>
    intro n s t k h hn
    obtain ⟨n, rfl⟩ : ∃ g, n = g + 1 := ⟨n - 1, by omega⟩
    obtain ⟨h1, h2⟩ := h.none
    simp only [zeroRun]
    rw [if_neg (by rw [h1]; simp)]
    refine ⟨⟨(Base.step s).symm.trans h.b, h.lt, ?_⟩, ?_, ?_⟩
    · rw [h2]
    · rfl
    · first | rfl | trivial
  | succ f ih =>
    intro n s t k h hn
    obtain ⟨n, rfl⟩ : ∃ g, n = g + 1 := ⟨n - 1, by omega⟩
    obtain ⟨h1, _, h3, _⟩ := h.more
    simp only [zeroRun]
    rw [if_pos h1, if_pos h3]
    exact ih n _ _ _ (h.push k zs) (by omega)
theorem zeroR_in {s : DSt} {k n : Nat} (hk : k ≤ s.nb) (hn : n ≤ s.nb - k) (ho : s.off = false) : zeroR s k n = zeroRun (List.replicate s.sz 0) n s k := by
  unfold zeroR
  rw [if_neg (by omega), if_neg (by omega), if_neg (by rw [ho]; simp), show ((n : Int)).toNat = n by omega, show ((k : Int)).toNat = k by omega]
theorem zeroR_off {s : DSt} {k n : Nat} (hk : k ≤ s.nb) (hn : n ≤ s.nb - k) (ho : s.off = true) : zeroR s k n = (s, 22, (k : Int)) := by
  unfold zeroR
  rw [if_neg (by omega), if_neg (by omega), if_pos ho]
theorem writes_on {s : DSt} {k : Nat} {xs : List Int} (hk : k < s.nb) (hl : xs.length = s.sz) (hb : stepB s = true) : writeE s k xs.length = 0 ∧ writeS s k xs = pushS (stepS s) k xs ∧ throughS s k xs = thruS (stepS s) k xs := by
  have hw := writeS_in hk hl
  refine ⟨?_, ?_, ?_⟩
  · unfold writeE; rw [hw, if_neg (by simp), if_pos hb]
  · unfold writeS; rw [hw, if_neg (by simp), if_pos hb, show ((k : Int)).toNat = k by omega]
  · unfold throughS; rw [hw, if_neg (by simp), if_pos hb, show ((k : Int)).toNat = k by omega]
theorem writes_off {s : DSt} {k : Nat} {xs : List Int} (hk : k < s.nb) (hl : xs.length = s.sz) (hb : stepB s = false) : writeE s k xs.length = 22 ∧ writeS s k xs = stepS s ∧ throughS s k xs = stepS s := by
  have hw := writeS_in hk hl
  refine ⟨?_, ?_, ?_⟩
  · unfold writeE; rw [hw, if_neg (by simp), if_neg (by rw [hb]; simp)]
  · unfold writeS; rw [hw, if_neg (by simp), if_neg (by rw [hb]; simp)]
  · unfold throughS; rw [hw, if_neg (by simp), if_neg (by rw [hb]; simp)]
theorem run_full {s t : DSt} {f : Nat} (r : RunV) (h : Fus s t f) (h1 : 1 ≤ s.nb) (hn : stepsN r s.nb ≤ f) :
    Fus (runR s r (stepsN r s.nb)).1 (runR t r f).1 (f - stepsN r s.nb) ∧ (runR s r (stepsN r s.nb)).2 = 0 ∧ (runR t r f).2 = 0 := by
  have hk := r.put.at_lt h1
  have hkt : r.put.at t.nb = r.put.at s.nb := by rw [h.b.nb]
  have hzt : zerosN r t.nb = zerosN r s.nb := by rw [h.b.nb]
  have hz : zerosN r s.nb ≤ s.nb - r.put.at s.nb := Nat.min_le_right _ _
  by_cases h2 : r.kind = 1
  · have e : stepsN r s.nb = zerosN r s.nb := by unfold stepsN; rw [if_pos h2]
    rw [e] at hn ⊢
    unfold runR
    rw [if_pos h2, if_pos h2, hkt, hzt, Nat.min_self, Nat.min_eq_left hn]
    rw [zeroR_in (by omega) hz h.off, zeroR_in (by rw [h.b.nb]; omega) (by rw [h.b.nb]; exact hz) h.lt.1, h.b.sz]
    exact Fus.zeros _ _ _ _ _ _ h hn
  · have e : stepsN r s.nb = 1 := by unfold stepsN; rw [if_neg h2]
    rw [e] at hn ⊢
    obtain ⟨f, rfl⟩ : ∃ g, f = g + 1 := ⟨f - 1, by omega⟩
    obtain ⟨m1, m2, m3, m4⟩ := h.more
    have hlive : Live (stepS t) := by rw [m4]; exact h.lt
    have hoff : (stepS s).off = false := by rw [m2]; exact h.off
    have hfd : (stepS s).fused = true := by rw [m2]; exact h.fd
    have hfu : (stepS s).fuse = ((f + 1 - 1 : Nat) : Int) := by rw [m2]; show s.fuse - 1 = _; rw [h.fu]; omega
    have hl : (padF r.put.txt s.sz).length = s.sz := padF_len _ _
    unfold runR
    rw [if_neg h2, if_neg h2, if_neg (show ¬ ((1 : Nat) = 0) by omega), if_neg (show ¬ (f + 1 = 0) by omega), hkt, h.b.sz]
    by_cases h3 : r.kind = 2
    · rw [if_pos h3, if_pos h3]
      dsimp only
      unfold flushS
      rw [m1, m3, if_pos rfl, if_pos rfl, if_pos rfl]
      exact ⟨⟨((Base.step s).symm.trans (h.b.trans (Base.step t))).flush, hlive, hoff, hfd, hfu⟩, rfl, rfl⟩
    · rw [if_neg h3, if_neg h3]
      obtain ⟨w1, w2, w3⟩ := writes_on (s := s) hk hl m1
      obtain ⟨v1, v2, v3⟩ := writes_on (s := t) (k := r.put.at s.nb) (by rw [h.b.nb]; exact hk) (xs := padF r.put.txt s.sz) (by rw [hl, h.b.sz]) m3
      by_cases h4 : r.put.past = true
      · rw [if_pos h4, if_pos h4, w1, v1, w3, v3]
        exact ⟨⟨h.b.thru (Base.step s) (Base.step t) _ _, hlive, hoff, hfd, hfu⟩, rfl, rfl⟩
      · rw [if_neg h4, if_neg h4, w1, v1, w2, v2]
        exact ⟨⟨h.b.push (Base.step s) (Base.step t) _ _, hlive, hoff, hfd, hfu⟩, rfl, rfl⟩
theorem run_cut {s t : DSt} {f : Nat} (r : RunV) (h : Fus s t f) (h1 : 1 ≤ s.nb) (hn : f < stepsN r s.nb) :
    Cutt (runR s r (stepsN r s.nb)).1 (runR t r f).1 ∧ (runR s r (stepsN r s.nb)).2 = 22 ∧ (runR t r f).2 = 0 := by
  have hk := r.put.at_lt h1
  have hkt : r.put.at t.nb = r.put.at s.nb := by rw [h.b.nb]
  have hzt : zerosN r t.nb = zerosN r s.nb := by rw [h.b.nb]
  have hz : zerosN r s.nb ≤ s.nb - r.put.at s.nb := Nat.min_le_right _ _
  by_cases h2 : r.kind = 1
  · have e : stepsN r s.nb = zerosN r s.nb := by unfold stepsN; rw [if_pos h2]
    rw [e] at hn ⊢
    unfold runR
    rw [if_pos h2, if_pos h2, hkt, hzt, Nat.min_self, Nat.min_eq_right (by omega)]
    rw [zeroR_in (by omega) hz h.off, zeroR_in (by rw [h.b.nb]; omega) (by rw [h.b.nb]; omega) h.lt.1, h.b.sz]
    exact Fus.zerosCut _ _ _ _ _ _ h hn
  · have e : stepsN r s.nb = 1 := by unfold stepsN; rw [if_neg h2]
    rw [e] at hn ⊢
    obtain rfl : f = 0 := by omega
    obtain ⟨m1, m2⟩ := h.none
    have hc : Cutt (stepS s) t := ⟨(Base.step s).symm.trans h.b, h.lt, by rw [m2]⟩
    have hl : (padF r.put.txt s.sz).length = s.sz := padF_len _ _
    unfold runR
    rw [if_neg h2, if_neg h2, if_neg (show ¬ ((1 : Nat) = 0) by omega), if_pos (show (0 : Nat) = 0 from rfl)]
    by_cases h3 : r.kind = 2
    · rw [if_pos h3]
      dsimp only
      unfold flushS
      rw [m1, if_neg (by simp), if_neg (by simp)]
      exact ⟨hc, rfl, rfl⟩
    · rw [if_neg h3]
      obtain ⟨w1, w2, w3⟩ := writes_off (s := s) hk hl m1
      by_cases h4 : r.put.past = true
      · rw [if_pos h4, w1, w3]; exact ⟨hc, rfl, rfl⟩
      · rw [if_neg h4, w1, w2]; exact ⟨hc, rfl, rfl⟩
theorem run_off {s t : DSt} (r : RunV) (h : Cutt s t) (h1 : 1 ≤ s.nb) :
    Cutt (runR s r (stepsN r s.nb)).1 (runR t r 0).1 ∧ (runR s r (stepsN r s.nb)).2 = 22 ∧ (runR t r 0).2 = 0 := by
  have hk := r.put.at_lt h1
  have hkt : r.put.at t.nb = r.put.at s.nb := by rw [h.b.nb]
  have hz : zerosN r s.nb ≤ s.nb - r.put.at s.nb := Nat.min_le_right _ _
  have m1 : stepB s = false := by unfold stepB; rw [if_pos h.off]
  have m2 : stepS s = s := by unfold stepS; rw [if_pos h.off]
  by_cases h2 : r.kind = 1
  · have e : stepsN r s.nb = zerosN r s.nb := by unfold stepsN; rw [if_pos h2]
    rw [e]
    unfold runR
    rw [if_pos h2, if_pos h2, hkt, Nat.min_self, Nat.min_zero]
    rw [zeroR_off (by omega) hz h.off, zeroR_in (by rw [h.b.nb]; omega) (by omega) h.lt.1]
    exact ⟨h, rfl, rfl⟩
  · have e : stepsN r s.nb = 1 := by unfold stepsN; rw [if_neg h2]
    rw [e]
    have hl : (padF r.put.txt s.sz).length = s.sz := padF_len _ _
    unfold runR
    rw [if_neg h2, if_neg h2, if_neg (show ¬ ((1 : Nat) = 0) by omega), if_pos (show (0 : Nat) = 0 from rfl)]
    by_cases h3 : r.kind = 2
    · rw [if_pos h3]
      dsimp only
      unfold flushS
      rw [m1, m2, if_neg (by simp), if_neg (by simp)]
      exact ⟨h, rfl, rfl⟩
    · rw [if_neg h3]
      obtain ⟨w1, w2, w3⟩ := writes_off (s := s) hk hl m1
      by_cases h4 : r.put.past = true
      · rw [if_pos h4, w1, w3, m2]; exact ⟨h, rfl, rfl⟩
      · rw [if_neg h4, w1, w2, m2]; exact ⟨h, rfl, rfl⟩
theorem runR_grows (s : DSt) (r : RunV) (m : Nat) : Grows s (runR s r m).1 := by
  unfold runR
  split
  · dsimp only
    have h := callS_grows s ⟨4, (r.put.at s.nb : Nat), ((min (zerosN r s.nb) m : Nat) : Int), .nilIface, []⟩
    unfold callS at h
    simpa using h
  split
  · exact Grows.refl s
  split
  · have h := callS_grows s ⟨5, 0, 0, .nilIface, []⟩
    unfold callS at h
    simpa using h
  split
  · have h := callS_grows s ⟨3, (r.put.at s.nb : Nat), 0, .nilIface, padF r.put.txt s.sz⟩
    unfold callS at h
    simpa using h
  · have h := callS_grows s ⟨2, (r.put.at s.nb : Nat), 0, .nilIface, padF r.put.txt s.sz⟩
    unfold callS at h
    simpa using h
/-- The two disks behind some runs: off, the rest. -/
def CutI (s t : DSt) (off : Bool) (rest : Nat) : Prop := if off = true then rest = 0 ∧ Cutt s t else Fus s t rest
end Go.Proofs.Ytigfcoibbmndpaa
