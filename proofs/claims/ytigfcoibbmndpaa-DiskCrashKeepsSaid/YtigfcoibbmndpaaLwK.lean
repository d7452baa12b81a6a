/- What Read tells behind writes and a flush; two disks alike. -/
import Derived.Test.YtigfcoibbmndpaaLwJ
import Derived.Outline
namespace Go.Proofs.Ytigfcoibbmndpaa
open Go.RowKit
open Go.ChangeMaps
set_option linter.unusedVariables false
set_option linter.unusedSimpArgs false
/-- What lies in a block, cached or not: the bytes, whether they can be read. -/
def viewX (s : DSt) (k : Nat) : List Int := if s.ca k ≠ [] then (s.ca k).getD ((s.ca k).length - 1) [] else s.dur k
def viewB (s : DSt) (k : Nat) : Bool := if s.ca k ≠ [] then false else s.sp k
theorem read_view {s : DSt} (h : Live s) {k : Nat} (hk : k < s.nb) : readE s k = (if viewB s k = true then 21 else 0) ∧ readX s k = (if viewB s k = true then [] else viewX s k) := by
  have hin : s.inr k := ⟨by omega, by omega⟩
  have e : readE s k = if s.ca k ≠ [] then 0 else if s.sp k = true then 21 else 0 := by
    unfold readE
    rw [if_neg (fun h => h hin), if_neg (by rw [h.1]; simp), show ((k : Int)).toNat = k by omega]
  unfold viewB viewX
  refine ⟨?_, ?_⟩
  · rw [e]
    by_cases hc : s.ca k = []
    · rw [if_neg (by simp [hc]), if_neg (show ¬ (s.ca k ≠ []) by simp [hc])]
    · rw [if_pos hc, if_pos hc]; rfl
  · unfold readX
    rw [e, show ((k : Int)).toNat = k by omega]
    by_cases hc : s.ca k = []
    · simp only [hc, ne_eq, not_true_eq_false, if_false]
      by_cases hs : s.sp k = true
      · rw [if_pos hs]; simp [hs]
      · rw [if_neg hs]; simp [hs]
    · simp [hc]
theorem view_push (s : DSt) (j k : Nat) (ys : List Int) : viewX (pushS s j ys) k = (if k = j then ys else viewX s k) ∧ viewB (pushS s j ys) k = (if k = j then false else viewB s k) := by
  have e : (pushS s j ys).ca k = if k = j then s.ca j ++ [ys] else s.ca k := rfl
  unfold viewX viewB
  rw [e]
  by_cases h : k = j
  · simp [h]
  · simp only [if_neg h]; first | exact ⟨rfl, rfl⟩ | exact ⟨rfl, trivial⟩ | exact ⟨trivial, rfl⟩ | trivial
theorem view_thru (s : DSt) (j k : Nat) (ys : List Int) : viewX (thruS s j ys) k = (if k = j then ys else viewX s k) ∧ viewB (thruS s j ys) k = (if k = j then false else viewB s k) := by
  have e : (thruS s j ys).ca k = if k = j then [] else s.ca k := rfl
  have e1 : (thruS s j ys).dur k = if k = j then ys else s.dur k := rfl
  have e2 : (thruS s j ys).sp k = if k = j then false else s.sp k := rfl
  unfold viewX viewB
  rw [e, e1, e2]
  by_cases h : k = j
  · simp [h]
  · simp only [if_neg h]; first | exact ⟨rfl, rfl⟩ | exact ⟨rfl, trivial⟩ | exact ⟨trivial, rfl⟩ | trivial
theorem view_put (s : DSt) (p : PutV) (k : Nat) : viewX (putS s p) k = (if k = p.at s.nb then padF p.txt s.sz else viewX s k) ∧ viewB (putS s p) k = (if k = p.at s.nb then false else viewB s k) := by
  unfold putS
  split
  · exact view_thru _ _ _ _
  · exact view_push _ _ _ _
theorem view_flush (s : DSt) (k : Nat) : viewX (flushC s) k = viewX s k ∧ viewB (flushC s) k = viewB s k := by
  have e : (flushC s).ca k = [] := rfl
  have e1 : (flushC s).dur k = if false = true ∨ (s.ca k).length = 0 then s.dur k else (s.ca k).getD ((s.ca k).length - 1) [] := rfl
  have e2 : (flushC s).sp k = if false = true ∨ (s.ca k).length = 0 then s.sp k else false := rfl
  unfold viewX viewB
  rw [e, e1, e2]
  by_cases h : s.ca k = []
  · simp [h]
  · simp [h]
/-- Is no later write of the list to the block of the i-th? -/
def lastB (ps : List PutV) (i nb : Nat) : Bool := (ps.drop (i + 1)).all fun q => decide (q.at nb ≠ (ps.getD i p0).at nb)
theorem puts_ok_at (s : DSt) (ps : List PutV) (i : Nat) (hi : i < ps.length) : viewB (putsS s ps) ((ps.getD i p0).at s.nb) = false := by
  induction ps generalizing s i with
  | nil => simp at hi
  | cons p ps ih =>
    have hn := (putS_grows s p).1
    show viewB (putsS (putS s p) ps) _ = false
    match i with
    | 0 =>
      have key : ∀ (qs : List PutV) (t : DSt) (k : Nat), viewB t k = false → viewB (putsS t qs) k = false := by
        intro qs
        induction qs with
        | nil => intro t k h; exact h
        | cons q qs ih2 =>
          intro t k h
          refine ih2 (putS t q) k ?_
          rw [(view_put t q k).2]
          split
          · rfl
          · exact h
      refine key ps _ _ ?_
      rw [(view_put s p _).2, List.getD_cons_zero, if_pos rfl]
    | i + 1 =>
      rw [List.getD_cons_succ, ← hn]
      exact ih (putS s p) i (by simpa using hi)
theorem puts_last (s : DSt) (ps : List PutV) (i : Nat) (hi : i < ps.length) (hl : lastB ps i s.nb = true) : viewX (putsS s ps) ((ps.getD i p0).at s.nb) = padF (ps.getD i p0).txt s.sz := by
  induction ps generalizing s i with
  | nil => simp at hi
  | cons p ps ih =>
    have hg := putS_grows s p
    have hn := hg.1
    have hz := hg.2.1
    show viewX (putsS (putS s p) ps) _ = _
    match i with
    | 0 =>
      have key : ∀ (qs : List PutV) (t : DSt) (k : Nat), (∀ q ∈ qs, q.at t.nb ≠ k) → viewX (putsS t qs) k = viewX t k := by
        intro qs
        induction qs with
        | nil => intro t k h; rfl
        | cons q qs ih2 =>
          intro t k h
          have hq := (putS_grows t q).1
          show viewX (putsS (putS t q) qs) k = _
          rw [ih2 (putS t q) k (fun r hr => by rw [hq]; exact h r (List.mem_cons_of_mem _ hr)), (view_put t q k).1, if_neg (fun e => h q List.mem_cons_self e.symm)]
      rw [List.getD_cons_zero]
      rw [key ps (putS s p) _ (fun q hq => by
        rw [hn]
        unfold lastB at hl
        rw [List.all_eq_true] at hl
        have := hl q (by simpa using hq)
        simpa using this), (view_put s p _).1, if_pos rfl]
    | i + 1 =>
      rw [List.getD_cons_succ, ← hn, ← hz]
      refine ih (putS s p) i (by simpa using hi) ?_
      rw [hn]
      unfold lastB at hl ⊢
      simpa using hl
/-- Two disks that differ in their counts alone. -/
structure Alike (s t : DSt) : Prop where
  nb : t.nb = s.nb
  sz : t.sz = s.sz
  du : t.dur = s.dur
  sp : t.sp = s.sp
  ca : t.ca = s.ca
  off : t.off = s.off
theorem Alike.refl (s : DSt) : Alike s s := ⟨rfl, rfl, rfl, rfl, rfl, rfl⟩
theorem Alike.readE {s t : DSt} (h : Alike s t) (j : Int) : readE t j = readE s j := by
  unfold Proofs.Ytigfcoibbmndpaa.readE DSt.inr; rw [h.nb, h.ca, h.sp, h.off]
theorem Alike.readX {s t : DSt} (h : Alike s t) (j : Int) : readX t j = readX s j := by
  unfold Proofs.Ytigfcoibbmndpaa.readX; rw [h.readE, h.ca, h.du]
theorem Alike.img {s t : DSt} (h : Alike s t) : imgL t t.nb = imgL s s.nb := by
  unfold imgL imgB; rw [h.nb, h.sp, h.sz, h.du]
theorem Alike.crash {s t : DSt} (h : Alike s t) (ps : List Int) : Alike (crashS s ps) (crashS t ps) := by
  have ek : keepK t ps = keepK s ps := by funext k; unfold keepK; rw [h.ca]
  refine ⟨h.nb, h.sz, ?_, ?_, ?_, rfl⟩
  · show (allS t (keepK t ps)).dur = (allS s (keepK s ps)).dur
    rw [ek]; unfold allS stS; dsimp only; rw [h.du, h.ca]
  · show (allS t (keepK t ps)).sp = (allS s (keepK s ps)).sp
    rw [ek]; unfold allS stS; dsimp only; rw [h.sp]
  · show (allS t (keepK t ps)).ca = (allS s (keepK s ps)).ca
    rw [ek]; unfold allS stS; dsimp only; rw [h.ca]
theorem Alike.cached {s t : DSt} (h : Alike s t) : cachedL t = cachedL s := by
  unfold cachedL; unfold hasC; rw [h.nb, h.ca]
end Go.Proofs.Ytigfcoibbmndpaa
