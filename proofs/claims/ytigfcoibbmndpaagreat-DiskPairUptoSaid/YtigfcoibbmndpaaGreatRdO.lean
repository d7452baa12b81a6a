/- The reference's disk behind a store into Medium. -/
import Derived.Test.YtigfcoibbmndpaaGreatRdN
import Derived.Outline
namespace Go.Proofs.YtigfcoibbmndpaaGreat
open Go.RowKit
open Go.ChangeMaps
set_option linter.unusedVariables false
set_option linter.unusedSimpArgs false
theorem RRepX.laidM {w w3 : World} {r Bm Bs cm cs k hB : Nat} {vc : Value} {G : Nat → Prop} {s : DSt} {C : List (Nat × List Int)} {wh : Int} {xs : List Int} (h : RRepX w r Bm Bs cm cs vc G s C wh) (hk : k < s.nb) (hxl : xs.length = s.sz) (hb : Below w.heap.size w w3) (hrow : RowA .u8 5 w3 hB s.sz (fun t => xs.getD t 0)) (hhB : w.heap.size ≤ hB) :
    RRepX (w3.setCell ⟨Bm, k, none⟩ (.slice (some ⟨hB, 0, none⟩) s.sz s.sz)) r Bm Bs cm cs vc (fun b => G b ∨ b = hB) { s with dur := layD s.dur k xs } C wh := by
  obtain ⟨mcur, m1, m2, m3⟩ := h.med
  obtain ⟨scur, s1, s2, s3⟩ := h.spo
  have far5 : ∀ b, b ≠ Bm → (w3.setCell ⟨Bm, k, none⟩ (.slice (some ⟨hB, 0, none⟩) s.sz s.sz)).heap[b]? = w3.heap[b]? := fun b hb => Below.heap_setCell w3 ⟨Bm, k, none⟩ _ b hb
  have far : ∀ b, b < w.heap.size → b ≠ Bm → (w3.setCell ⟨Bm, k, none⟩ (.slice (some ⟨hB, 0, none⟩) s.sz s.sz)).heap[b]? = w.heap[b]? := fun b h1 h2 => (far5 b h2).trans (hb.block b h1)
  have hrm : r ≠ Bm := h.blk.ne_blk m1 (by decide)
  have hwf := h.wf
  have keepG : ∀ b f, G b → RowA .u8 5 w b s.sz f → RowA .u8 5 (w3.setCell ⟨Bm, k, none⟩ (.slice (some ⟨hB, 0, none⟩) s.sz s.sz)) b s.sz f := fun b f hG hf => hf.keep (far b (h.apart b hG).1 (h.apart b hG).2.2.1)
  have hmlt := m1.lt
  have hslt := s1.lt
  have hrlt := h.blk.lt
  refine ⟨⟨hwf.nb1, hwf.nb2, hwf.sz0, hwf.sz1, fun i hi => ?_, hwf.cl, hwf.cn, hwf.f0, hwf.f1⟩, (far r hrlt hrm).trans h.blk, ?_, ?_, ?_, h.rel, h.inr, fun g hg => .inl (h.vco g hg), fun b hb' => ?_, h.ne⟩
  · show (layD s.dur k xs i).length = s.sz
    unfold layD
    split
    · exact hxl
    · exact hwf.dl i hi
  · have hm3 : Blk w3 Bm 22 mcur := m1.below hb hmlt
    refine ⟨_, hm3.set k _, m2, fun i hi => ?_⟩
    obtain ⟨u, a, b, e, hG, hf⟩ := m3 i hi
    rw [Array.getElem?_setIfInBounds]
    show ∃ v, _ ∧ OwnL _ _ s.sz v (layD s.dur k xs i)
    unfold layD
    by_cases e2 : k = i
    · subst e2
      have hsz : k < mcur.size := (Array.getElem?_eq_some_iff.1 a).1
      rw [if_pos rfl, if_pos hsz, if_pos rfl]
      exact ⟨_, rfl, hB, rfl, .inr rfl, hrow.keep (far5 hB (by omega))⟩
    · rw [if_neg e2, if_neg (fun h => e2 h.symm)]
      exact ⟨u, a, b, e, .inl hG, keepG b _ hG hf⟩
  · exact ⟨scur, (far Bs hslt (fun e => h.ne e.symm)).trans s1, s2, s3⟩
  · obtain ⟨hs, c1, c2, c3⟩ := h.cac
    exact ⟨hs, c1, own_keep2 c2 (fun g hg => far g (h.apart g (h.vco g hg)).1 (h.apart g (h.vco g hg)).2.2.1), fun i hi => let ⟨a, b⟩ := c3 i hi; ⟨.inl a, keepG _ _ a b⟩⟩
  · rw [size_setCell]
    rcases hb' with hG | rfl
    · obtain ⟨a, b2, c, d⟩ := h.apart b hG
      exact ⟨Nat.lt_of_lt_of_le a hb.size, b2, c, d⟩
    · exact ⟨hrow.lt, by omega, by omega, by omega⟩
end Go.Proofs.YtigfcoibbmndpaaGreat
