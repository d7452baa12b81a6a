/- The reference's disk behind forget. -/
import Derived.Test.YtigfcoibbmndpaaGreatRdM
import Derived.Outline
namespace Go.Proofs.YtigfcoibbmndpaaGreat
open Go.RowKit
open Go.ChangeMaps
set_option linter.unusedVariables false
set_option linter.unusedSimpArgs false
theorem RRepX.forgot {w wq : World} {r Bm Bs cm cs k : Nat} {vc v : Value} {G : Nat → Prop} {s : DSt} {C : List (Nat × List Int)} {wh : Int} (h : RRepX w r Bm Bs cm cs vc G s C wh) (hb : Below w.heap.size w wq) (hi : ItemsR G w wq w.heap.size s.sz v (outC C k)) :
    RRepX (wq.setCell ⟨r, 4, none⟩ v) r Bm Bs cm cs v (fun b => G b ∨ v.ownBlock = some b) { s with ca := dropC s.ca k } (outC C k) wh := by
  obtain ⟨hs, hl, ho, hel⟩ := hi
  have hrl := h.blk.lt
  have far5 : ∀ b, b ≠ r → (wq.setCell ⟨r, 4, none⟩ v).heap[b]? = wq.heap[b]? := fun b hb => Below.heap_setCell wq ⟨r, 4, none⟩ _ b hb
  have far : ∀ b, b < w.heap.size → b ≠ r → (wq.setCell ⟨r, 4, none⟩ v).heap[b]? = w.heap[b]? := fun b h1 h2 => (far5 b h2).trans (hb.block b h1)
  obtain ⟨mcur, m1, m2, m3⟩ := h.med
  obtain ⟨scur, s1, s2, s3⟩ := h.spo
  have hmr : Bm ≠ r := m1.ne_blk h.blk (by decide)
  have hsr : Bs ≠ r := s1.ne_blk h.blk (by decide)
  have hvl : ∀ g, v.ownBlock = some g → w.heap.size ≤ g ∧ g < wq.heap.size := fun g hg => by
    have h1 := ho.lt g hg
    exact ⟨h1.1, h1.2⟩
  have hwf := h.wf
  have keepG : ∀ b f, G b → RowA .u8 5 w b s.sz f → RowA .u8 5 (wq.setCell ⟨r, 4, none⟩ v) b s.sz f := fun b f hG hf => hf.keep (far b (h.apart b hG).1 (h.apart b hG).2.1)
  refine ⟨⟨hwf.nb1, hwf.nb2, hwf.sz0, hwf.sz1, hwf.dl, fun i l hi => ?_, fun i hi => ?_, hwf.f0, hwf.f1⟩, ?_, ?_, ?_, ?_, fun j => ?_, fun x hx => ?_, fun b hb => .inr hb, fun b hb' => ?_, h.ne⟩
  · have hi' : l ∈ dropC s.ca k i := hi
    unfold dropC at hi'
    split at hi'
    · cases hi'
    · exact hwf.cl i l hi'
  · show dropC s.ca k i = []
    unfold dropC
    split
    · rfl
    · exact hwf.cn i hi
  · have hb0 : Blk wq r 74 (rArr s (.slice (some ⟨Bm, 0, none⟩) s.nb cm) (.slice (some ⟨Bs, 0, none⟩) s.nb cs) vc wh) := h.blk.below hb hrl
    exact hb0.set 4 v
  · refine ⟨mcur, (far Bm m1.lt hmr).trans m1, m2, fun i hi => ?_⟩
    obtain ⟨u, a, b, e, hG, hf⟩ := m3 i hi
    exact ⟨u, a, b, e, .inl hG, keepG b _ hG hf⟩
  · exact ⟨scur, (far Bs s1.lt hsr).trans s1, s2, s3⟩
  · refine ⟨hs, hl, ?_, fun i hi => ?_⟩
    · have h1 : (wq.setCell ⟨r, 4, none⟩ v).ownsRow w.heap.size 113 2 v (outC C k).length (cellsC (outC C k) hs s.sz) := own_keep2 ho (fun g hg => far5 g (by have := (hvl g hg).1; omega))
      refine ⟨h1.1, ?_⟩
      rcases h1.2 with h | ⟨g, cap, cur, e, a1, a2⟩
      · exact .inl h
      · exact .inr ⟨g, cap, cur, e, Nat.zero_le _, a2⟩
    · obtain ⟨a, b⟩ := hel i hi
      exact ⟨.inl a, keepG _ _ a b⟩
  · show dropC s.ca k j = partC (outC C k) j
    unfold outC
    rw [partC_drop]
    unfold dropC
    by_cases e : j = k
    · rw [if_pos e, if_pos e]
    · rw [if_neg e, if_neg e, h.rel]
  · exact h.inr x (List.mem_filter.1 hx).1
  · rw [size_setCell]
    have hBm := m1.lt
    have hBs := s1.lt
    rcases hb' with hG | hg
    · obtain ⟨a, b2, c, d⟩ := h.apart b hG
      exact ⟨Nat.lt_of_lt_of_le a hb.size, b2, c, d⟩
    · have := hvl b hg
      exact ⟨this.2, by omega, by omega, by omega⟩
end Go.Proofs.YtigfcoibbmndpaaGreat
