/- The reference's disk while its one list is laid down: the plain side, and in the world. -/
import Derived.Test.YtigfcoibbmndpaaGreatRdO
import Derived.Outline
namespace Go.Proofs.YtigfcoibbmndpaaGreat
open Go.RowKit
open Go.ChangeMaps
set_option linter.unusedVariables false
set_option linter.unusedSimpArgs false
/-- How many of the first i cached writes are block k's. -/
def seenN (C : List (Nat × List Int)) (i k : Nat) : Nat := (partC (C.take i) k).length
/-- The disk when the first i of the one list have been laid down, each block's first keep ones. -/
def midS (s : DSt) (C : List (Nat × List Int)) (keep : Nat → Nat) (i : Nat) : DSt :=
  { s with
    dur := fun k => if min (seenN C i k) (keep k) = 0 then s.dur k else (s.ca k).getD (min (seenN C i k) (keep k) - 1) []
    sp := fun k => if min (seenN C i k) (keep k) = 0 then s.sp k else false }
theorem seenN_zero (C : List (Nat × List Int)) (k : Nat) : seenN C 0 k = 0 := rfl
theorem seenN_succ (C : List (Nat × List Int)) (i k : Nat) (h : i < C.length) : seenN C (i + 1) k = if (C.getD i (0, [])).1 = k then seenN C i k + 1 else seenN C i k := by
  unfold seenN
  obtain ⟨x, ex⟩ : ∃ x, x = C.getD i (0, []) := ⟨_, rfl⟩
  rw [takeC_snoc C i h, ← ex]
  rw [show C.take i ++ [x] = C.take i ++ [(x.1, x.2)] from rfl, partC_snoc]
  split
  · rw [List.length_append]; rfl
  · rfl
theorem seenN_at (C : List (Nat × List Int)) (i : Nat) (h : i < C.length) : (partC C (C.getD i (0, [])).1).getD (seenN C i (C.getD i (0, [])).1) [] = (C.getD i (0, [])).2 := by
  obtain ⟨x, ex⟩ : ∃ x, x = C.getD i (0, []) := ⟨_, rfl⟩
  have hC : C = C.take i ++ x :: C.drop (i + 1) := by
    rw [ex, List.getD_eq_getElem?_getD, List.getElem?_eq_getElem h]
    simp
  rw [← ex]
  unfold seenN
  have hp : partC C x.1 = partC (C.take i) x.1 ++ x.2 :: partC (C.drop (i + 1)) x.1 := by
    conv => lhs; rw [hC]
    unfold partC
    rw [List.filter_append, List.map_append, List.filter_cons]
    simp
  rw [hp, List.getD_eq_getElem?_getD, List.getElem?_append_right (Nat.le_refl _), Nat.sub_self]
  rfl
theorem seenN_all (C : List (Nat × List Int)) (k : Nat) : seenN C C.length k = (partC C k).length := by unfold seenN; rw [List.take_length]
theorem seenN_le (C : List (Nat × List Int)) (i k : Nat) : seenN C i k ≤ (partC C k).length := by
  unfold seenN partC
  rw [List.length_map, List.length_map]
  exact ((List.take_sublist i C).filter _).length_le
theorem midS_zero (s : DSt) (C : List (Nat × List Int)) (keep : Nat → Nat) : midS s C keep 0 = s := by
  refine dst_ext rfl rfl (fun k => ?_) (fun k => ?_) (fun _ => rfl) rfl rfl rfl rfl rfl rfl rfl
  · have h0 : min (seenN C 0 k) (keep k) = 0 := by rw [seenN_zero]; omega
    show (if min (seenN C 0 k) (keep k) = 0 then s.dur k else (s.ca k).getD (min (seenN C 0 k) (keep k) - 1) []) = s.dur k
    rw [if_pos h0]
  · have h0 : min (seenN C 0 k) (keep k) = 0 := by rw [seenN_zero]; omega
    show (if min (seenN C 0 k) (keep k) = 0 then s.sp k else false) = s.sp k
    rw [if_pos h0]
/-- One more is laid down. -/
theorem midS_lay (s : DSt) (C : List (Nat × List Int)) (keep : Nat → Nat) (i : Nat) (hi : i < C.length) (hrel : ∀ k, s.ca k = partC C k) (hk : seenN C i (C.getD i (0, [])).1 + 1 ≤ keep (C.getD i (0, [])).1) :
    midS s C keep (i + 1) = { midS s C keep i with dur := layD (midS s C keep i).dur (C.getD i (0, [])).1 (C.getD i (0, [])).2, sp := clrS (midS s C keep i).sp (C.getD i (0, [])).1 } := by
  have hat := seenN_at C i hi
  obtain ⟨x, ex⟩ : ∃ x, x = C.getD i (0, []) := ⟨_, rfl⟩
  have hsu := fun k => seenN_succ C i k hi
  rw [← ex] at hk hat hsu
  rw [← ex]
  refine dst_ext rfl rfl (fun k => ?_) (fun k => ?_) (fun _ => rfl) rfl rfl rfl rfl rfl rfl rfl
  · show (if min (seenN C (i + 1) k) (keep k) = 0 then _ else _) = layD (midS s C keep i).dur x.1 x.2 k
    unfold layD
    by_cases e : k = x.1
    · subst e
      have h1 := hsu x.1
      rw [if_pos rfl] at h1
      rw [h1, if_pos rfl, if_neg (by omega), Nat.min_eq_left hk, Nat.add_sub_cancel, hrel]
      exact hat
    · have h1 := hsu k
      rw [if_neg (fun h => e h.symm)] at h1
      rw [h1, if_neg e]; rfl
  · show (if min (seenN C (i + 1) k) (keep k) = 0 then _ else _) = clrS (midS s C keep i).sp x.1 k
    unfold clrS
    by_cases e : k = x.1
    · subst e
      have h1 := hsu x.1
      rw [if_pos rfl] at h1
      rw [h1, if_pos rfl, if_neg (by omega)]
    · have h1 := hsu k
      rw [if_neg (fun h => e h.symm)] at h1
      rw [h1, if_neg e]; rfl
theorem midS_not (s : DSt) (C : List (Nat × List Int)) (keep : Nat → Nat) (i : Nat) (hi : i < C.length) (hk : ¬ seenN C i (C.getD i (0, [])).1 + 1 ≤ keep (C.getD i (0, [])).1) :
    midS s C keep (i + 1) = midS s C keep i := by
  obtain ⟨x, ex⟩ : ∃ x, x = C.getD i (0, []) := ⟨_, rfl⟩
  have hsu := fun k => seenN_succ C i k hi
  rw [← ex] at hk hsu
  have hm : ∀ k, min (seenN C (i + 1) k) (keep k) = min (seenN C i k) (keep k) := fun k => by
    rw [hsu]
    by_cases e : x.1 = k
    · rw [if_pos e]; rw [e] at hk; omega
    · rw [if_neg e]
  refine dst_ext rfl rfl (fun k => ?_) (fun k => ?_) (fun _ => rfl) rfl rfl rfl rfl rfl rfl rfl
  · show (if min (seenN C (i + 1) k) (keep k) = 0 then _ else _) = (if min (seenN C i k) (keep k) = 0 then _ else _)
    rw [hm]
  · show (if min (seenN C (i + 1) k) (keep k) = 0 then _ else _) = (if min (seenN C i k) (keep k) = 0 then _ else _)
    rw [hm]
theorem midS_end (s : DSt) (C : List (Nat × List Int)) (keep : Nat → Nat) (hrel : ∀ k, s.ca k = partC C k) (hk : ∀ k, keep k ≤ (s.ca k).length) : { midS s C keep C.length with ca := fun _ => [] } = allS s keep := by
  have hm : ∀ k, min (seenN C C.length k) (keep k) = keep k := fun k => by rw [seenN_all, ← hrel]; have := hk k; omega
  refine dst_ext rfl rfl (fun k => ?_) (fun k => ?_) (fun _ => rfl) rfl rfl rfl rfl rfl rfl rfl
  · show (if min (seenN C C.length k) (keep k) = 0 then _ else _) = (if false = true ∨ keep k = 0 then _ else _)
    rw [hm]; simp
  · show (if min (seenN C C.length k) (keep k) = 0 then _ else _) = (if false = true ∨ keep k = 0 then _ else _)
    rw [hm]; simp
/-- Medium[k] is set to a list that the disk has already. -/
theorem RRepX.laidG {w : World} {r Bm Bs cm cs k hB : Nat} {vc : Value} {G : Nat → Prop} {s : DSt} {C : List (Nat × List Int)} {wh : Int} {xs : List Int} (h : RRepX w r Bm Bs cm cs vc G s C wh) (hk : k < s.nb) (hxl : xs.length = s.sz) (hG : G hB) (hrow : RowA .u8 5 w hB s.sz (fun t => xs.getD t 0)) :
    RRepX (w.setCell ⟨Bm, k, none⟩ (.slice (some ⟨hB, 0, none⟩) s.sz s.sz)) r Bm Bs cm cs vc G { s with dur := layD s.dur k xs } C wh := by
  obtain ⟨mcur, m1, m2, m3⟩ := h.med
  obtain ⟨scur, s1, s2, s3⟩ := h.spo
  have far : ∀ b, b ≠ Bm → (w.setCell ⟨Bm, k, none⟩ (.slice (some ⟨hB, 0, none⟩) s.sz s.sz)).heap[b]? = w.heap[b]? := fun b hb => Below.heap_setCell w ⟨Bm, k, none⟩ _ b hb
  have hrm : r ≠ Bm := h.blk.ne_blk m1 (by decide)
  have hwf := h.wf
  have keepG : ∀ b f, G b → RowA .u8 5 w b s.sz f → RowA .u8 5 (w.setCell ⟨Bm, k, none⟩ (.slice (some ⟨hB, 0, none⟩) s.sz s.sz)) b s.sz f := fun b f hG hf => hf.keep (far b (h.apart b hG).2.2.1)
  refine ⟨⟨hwf.nb1, hwf.nb2, hwf.sz0, hwf.sz1, fun i hi => ?_, hwf.cl, hwf.cn, hwf.f0, hwf.f1⟩, (far r hrm).trans h.blk, ?_, ?_, ?_, h.rel, h.inr, h.vco, fun b hb' => ?_, h.ne⟩
  · show (layD s.dur k xs i).length = s.sz
    unfold layD
    split
    · exact hxl
    · exact hwf.dl i hi
  · refine ⟨_, m1.set k _, m2, fun i hi => ?_⟩
    obtain ⟨u, a, b, e, hG', hf⟩ := m3 i hi
    rw [Array.getElem?_setIfInBounds]
    show ∃ v, _ ∧ OwnL _ _ s.sz v (layD s.dur k xs i)
    unfold layD
    by_cases e2 : k = i
    · subst e2
      have hsz : k < mcur.size := (Array.getElem?_eq_some_iff.1 a).1
      rw [if_pos rfl, if_pos hsz, if_pos rfl]
      exact ⟨_, rfl, hB, rfl, hG, keepG hB _ hG hrow⟩
    · rw [if_neg e2, if_neg (fun h => e2 h.symm)]
      exact ⟨u, a, b, e, hG', keepG b _ hG' hf⟩
  · exact ⟨scur, (far Bs (fun e => h.ne e.symm)).trans s1, s2, s3⟩
  · obtain ⟨hs, c1, c2, c3⟩ := h.cac
    exact ⟨hs, c1, own_keep2 c2 (fun g hg => far g (h.apart g (h.vco g hg)).2.2.1), fun i hi => let ⟨a, b⟩ := c3 i hi; ⟨a, keepG _ _ a b⟩⟩
  · rw [size_setCell]; exact h.apart b hb'
/-- The one list is emptied. -/
theorem RRepX.emptied {w : World} {r Bm Bs cm cs : Nat} {vc : Value} {G : Nat → Prop} {s : DSt} {C : List (Nat × List Int)} {wh : Int} (h : RRepX w r Bm Bs cm cs vc G s C wh) :
    RRepX (w.setCell ⟨r, 4, none⟩ (.slice none 0 0)) r Bm Bs cm cs (.slice none 0 0) G { s with ca := fun _ => [] } [] wh := by
  have far : ∀ b, b ≠ r → (w.setCell ⟨r, 4, none⟩ (.slice none 0 0)).heap[b]? = w.heap[b]? := fun b hb => Below.heap_setCell w ⟨r, 4, none⟩ _ b hb
  have hG : ∀ b, G b → (w.setCell ⟨r, 4, none⟩ (.slice none 0 0)).heap[b]? = w.heap[b]? := fun b hb => far b (h.apart b hb).2.1
  have hwf := h.wf
  refine ⟨⟨hwf.nb1, hwf.nb2, hwf.sz0, hwf.sz1, hwf.dl, fun k l hl => by simp at hl, fun _ _ => rfl, hwf.f0, hwf.f1⟩, h.blk.set 4 (.slice none 0 0), ?_, ?_, ⟨[], rfl, World.ownsRow_nil _ _ _ _, fun i hi => absurd hi (by simp)⟩, fun _ => rfl, fun x hx => by simp at hx, fun g hg => by simp [Value.ownBlock] at hg, fun b hb => ?_, h.ne⟩
  · obtain ⟨cur, g1, g2, g3⟩ := h.med
    exact ⟨cur, (far Bm (g1.ne_blk h.blk (by decide))).trans g1, g2, fun k hk => let ⟨v, a, b⟩ := g3 k hk; ⟨v, a, b.keep hG (fun _ h => h)⟩⟩
  · obtain ⟨cur, g1, g2⟩ := h.spo
    exact ⟨cur, (far Bs (g1.ne_blk h.blk (by decide))).trans g1, g2⟩
  · rw [size_setCell]; exact h.apart b hb
end Go.Proofs.YtigfcoibbmndpaaGreat
