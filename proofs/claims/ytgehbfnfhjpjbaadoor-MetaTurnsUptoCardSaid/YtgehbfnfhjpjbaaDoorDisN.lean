/- All that is cached taken over: the plain side; Flush. -/
import Derived.Test.YtgehbfnfhjpjbaaDoorDisL
import Derived.Outline
namespace Go.Proofs.YtgehbfnfhjpjbaaDoor
open Go.RowKit
open Go.ChangeMaps
set_option linter.unusedVariables false
set_option linter.unusedSimpArgs false
theorem RangeI.left_eq {w : World} {b r : Nat} {F : Int → Option Value} {L : Int → Bool} {n : Nat} (h : RangeI w b r F L n) : w.rangeLeft b r = n := by
  obtain ⟨es, clock, since, seen, c0, h1, h2, h3, h4, h5, h6, h7, h8, h9, _⟩ := h
  simp only [World.rangeLeft, h1, h5]
  exact h9
/-- The blocks that L does not name have been settled: the first keep writes of each are durable, the others forgotten. -/
def stS (s : DSt) (keep : Nat → Nat) (L : Nat → Bool) : DSt :=
  { s with
    ca := fun k => if L k = true then s.ca k else []
    dur := fun k => if L k = true ∨ keep k = 0 then s.dur k else (s.ca k).getD (keep k - 1) []
    sp := fun k => if L k = true ∨ keep k = 0 then s.sp k else false }
theorem dst_ext {s t : DSt} (h1 : s.nb = t.nb) (h2 : s.sz = t.sz) (h3 : ∀ k, s.dur k = t.dur k) (h4 : ∀ k, s.sp k = t.sp k) (h5 : ∀ k, s.ca k = t.ca k) (h6 : s.off = t.off) (h7 : s.fused = t.fused) (h8 : s.fuse = t.fuse) (h9 : s.c0 = t.c0) (h10 : s.c1 = t.c1) (h11 : s.c2 = t.c2) (h12 : s.c3 = t.c3) : s = t := by
  cases s; cases t
  simp only at h1 h2 h3 h4 h5 h6 h7 h8 h9 h10 h11 h12
  obtain rfl := funext h3
  obtain rfl := funext h4
  obtain rfl := funext h5
  subst h1 h2 h6 h7 h8 h9 h10 h11 h12
  rfl
theorem stS_laid (s : DSt) (keep : Nat → Nat) (L L' : Nat → Bool) (k : Nat) (xs : List Int) (hL : L k = true) (hk : 0 < keep k) (hx : xs = (s.ca k).getD (keep k - 1) []) (hL' : ∀ i, L' i = (L i && decide (i ≠ k))) : laidS (stS s keep L) k xs = stS s keep L' := by
  have hk' : L' k = false := by rw [hL']; simp
  have hi' : ∀ i, i ≠ k → L' i = L i := fun i hi => by rw [hL']; simp [hi]
  refine dst_ext rfl rfl (fun i => ?_) (fun i => ?_) (fun i => ?_) rfl rfl rfl rfl rfl rfl rfl
  · show layD (stS s keep L).dur k xs i = if L' i = true ∨ keep i = 0 then s.dur i else (s.ca i).getD (keep i - 1) []
    unfold layD
    by_cases e : i = k
    · rw [if_pos e, e, if_neg (by rw [hk']; simp; omega), hx]
    · rw [if_neg e, hi' i e]; rfl
  · show clrS (stS s keep L).sp k i = if L' i = true ∨ keep i = 0 then s.sp i else false
    unfold clrS
    by_cases e : i = k
    · rw [if_pos e, e, if_neg (by rw [hk']; simp; omega)]
    · rw [if_neg e, hi' i e]; rfl
  · show dropC (stS s keep L).ca k i = if L' i = true then s.ca i else []
    unfold dropC
    by_cases e : i = k
    · rw [if_pos e, e, if_neg (by rw [hk']; simp)]
    · rw [if_neg e, hi' i e]; rfl
theorem stS_drop (s : DSt) (keep : Nat → Nat) (L L' : Nat → Bool) (k : Nat) (hL : L k = true) (hk : keep k = 0) (hL' : ∀ i, L' i = (L i && decide (i ≠ k))) : { stS s keep L with ca := dropC (stS s keep L).ca k } = stS s keep L' := by
  have hk' : L' k = false := by rw [hL']; simp
  have hi' : ∀ i, i ≠ k → L' i = L i := fun i hi => by rw [hL']; simp [hi]
  refine dst_ext rfl rfl (fun i => ?_) (fun i => ?_) (fun i => ?_) rfl rfl rfl rfl rfl rfl rfl
  · show (if L i = true ∨ keep i = 0 then s.dur i else (s.ca i).getD (keep i - 1) []) = if L' i = true ∨ keep i = 0 then s.dur i else (s.ca i).getD (keep i - 1) []
    by_cases e : i = k
    · rw [e, if_pos (.inr hk), if_pos (.inr hk)]
    · rw [hi' i e]
  · show (if L i = true ∨ keep i = 0 then s.sp i else false) = if L' i = true ∨ keep i = 0 then s.sp i else false
    by_cases e : i = k
    · rw [e, if_pos (.inr hk), if_pos (.inr hk)]
    · rw [hi' i e]
  · show dropC (stS s keep L).ca k i = if L' i = true then s.ca i else []
    unfold dropC
    by_cases e : i = k
    · rw [if_pos e, e, if_neg (by rw [hk']; simp)]
    · rw [if_neg e, hi' i e]; rfl
theorem stS_start (s : DSt) (keep : Nat → Nat) (L : Nat → Bool) (h : ∀ k, L k = false → s.ca k = []) (hk : ∀ k, s.ca k = [] → keep k = 0) : stS s keep L = s := by
  refine dst_ext rfl rfl (fun i => ?_) (fun i => ?_) (fun i => ?_) rfl rfl rfl rfl rfl rfl rfl
  · show (if L i = true ∨ keep i = 0 then s.dur i else (s.ca i).getD (keep i - 1) []) = s.dur i
    by_cases e : L i = true
    · rw [if_pos (.inl e)]
    · rw [if_pos (.inr (hk i (h i (by simpa using e))))]
  · show (if L i = true ∨ keep i = 0 then s.sp i else false) = s.sp i
    by_cases e : L i = true
    · rw [if_pos (.inl e)]
    · rw [if_pos (.inr (hk i (h i (by simpa using e))))]
  · show (if L i = true then s.ca i else []) = s.ca i
    by_cases e : L i = true
    · rw [if_pos e]
    · rw [if_neg e, h i (by simpa using e)]
/-- All settled. -/
def allS (s : DSt) (keep : Nat → Nat) : DSt := stS s keep (fun _ => false)
theorem stS_end (s : DSt) (keep : Nat → Nat) (L : Nat → Bool) (h : ∀ k, L k = false) : stS s keep L = allS s keep := by
  rw [show L = fun _ => false from funext h]; rfl
/-- The loop over the cached blocks under way. -/
def SweepR (O : Nat → Prop) (w : World) (d m c B ms mc r : Nat) (G : Nat → Prop) (s : DSt) (keep : Nat → Nat) (L : Int → Bool) (n : Nat) (wr : World) : Prop :=
  ∃ F, RangeI wr mc r F L n ∧ DRepX wr d m c B ms mc F G (stS s keep (fun k => L k)) ∧ OnlyP O w wr
/-- What a step of the loop finds. -/
structure SweepAt (G : Nat → Prop) (w1 : World) (d m c B ms mc r : Nat) (F : Int → Option Value) (s : DSt) (keep : Nat → Nat) (L : Int → Bool) (k g cap : Nat) : Prop where
  hk : k < s.nb
  hF : F k = some (.slice (some ⟨g, 0, none⟩) (s.ca k).length cap)
  h0 : 0 < (s.ca k).length
  cells : ∀ i, i < (s.ca k).length → ∃ h, w1.cell? ⟨g, i, none⟩ = some (.slice (some ⟨h, 0, none⟩) s.sz s.sz) ∧ Rd .u8 w1 (.slice (some ⟨h, 0, none⟩) s.sz s.sz) ((s.ca k).getD i []) ∧ ((s.ca k).getD i []).length = s.sz
theorem sweep_at {G : Nat → Prop} {w1 : World} {d m c B ms mc r : Nat} {F : Int → Option Value} {s : DSt} {keep : Nat → Nat} {L : Int → Bool} {j : Int} {v : Value} (hx : DRepX w1 d m c B ms mc F G (stS s keep (fun k => L k))) (hL : L j = true) (hv : F j = some v) (hcl : ∀ k, ∀ l ∈ s.ca k, l.length = s.sz) :
    ∃ k g cap, j = ((k : Nat) : Int) ∧ v = .slice (some ⟨g, 0, none⟩) (s.ca k).length cap ∧ SweepAt G w1 d m c B ms mc r F s keep L k g cap := by
  obtain ⟨h0, h1, g, cap, vs, rfl, hn, _, hown, hls⟩ := hx.car.yes j v hv
  obtain ⟨k, rfl⟩ : ∃ k : Nat, j = k := ⟨j.toNat, by omega⟩
  have e : (stS s keep (fun k => L k)).ca ((k : Int)).toNat = s.ca k := by
    rw [show ((k : Int)).toNat = k by omega]
    show (if L (k : Int) = true then s.ca k else []) = s.ca k
    rw [if_pos hL]
  rw [e] at hn hown hls hv ⊢
  refine ⟨k, g, cap, rfl, rfl, ⟨by have : ((k : Int)) < s.nb := h1; omega, hv, hn, fun i hi => ?_⟩⟩
  obtain ⟨h, a1, _, a3⟩ := hls i hi
  obtain ⟨g', cap', e', _, _, _, _, hcells⟩ := own_cells hown hn
  simp only [Value.slice.injEq, Option.some.injEq, Addr.mk.injEq] at e'
  obtain ⟨⟨rfl, _⟩, _⟩ := e'
  have hlen : ((s.ca k).getD i []).length = s.sz := by
    refine hcl k _ ?_
    rw [List.getD_eq_getElem?_getD, List.getElem?_eq_getElem hi]
    exact List.getElem_mem _
  refine ⟨h, (hcells i hi).trans a1, ?_, hlen⟩
  have a3' : RowA .u8 5 w1 h s.sz (fun t => ((s.ca k).getD i []).getD t 0) := a3
  have := a3'.rd ((s.ca k).getD i []) s.sz (by rw [hlen]; exact Nat.le_refl _) (by rw [hlen]; exact Nat.le_refl _) (fun _ _ => rfl)
  rw [hlen] at this
  exact this
end Go.Proofs.YtgehbfnfhjpjbaaDoor
