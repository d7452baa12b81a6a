/- The reference's one list grows by a write. -/
import Derived.Test.YtigfcoibbmndpaaGreatRdG
import Derived.Outline
namespace Go.Proofs.YtigfcoibbmndpaaGreat
open Go.RowKit
open Go.ChangeMaps
set_option linter.unusedVariables false
set_option linter.unusedSimpArgs false
theorem own_blockN {w : World} {B k : Nat} {e : TypeId} {v : Value} {n : Nat} {xs : List Value} (h : w.ownsRow B e k v n xs) (g : Nat) (hg : v.ownBlock = some g) : ∃ cur, Blk w g e cur := by
  rcases h.2 with ⟨rfl, h0⟩ | ⟨g', cap, cur, rfl, hB, hb, _⟩
  · simp [Value.ownBlock] at hg
  · simp only [Value.ownBlock, Option.some.injEq] at hg; subst hg; exact ⟨cur, hb⟩
theorem Blk.ne_ownN {w : World} {B g k : Nat} {e t : TypeId} {cs : Array Value} {v : Value} {n : Nat} {xs : List Value} (hb : Blk w g t cs) (h : w.ownsRow B e k v n xs) (hne : t ≠ e) : some g ≠ v.ownBlock := by
  intro e1
  obtain ⟨cur, hc⟩ := own_blockN h g e1.symm
  exact hb.ne_blk hc hne rfl
theorem RowA.ne_ownN {w : World} {B g k m : Nat} {i : IntKind} {e t : TypeId} {f : Nat → Int} {v : Value} {n : Nat} {xs : List Value} (hb : RowA i t w g m f) (h : w.ownsRow B e k v n xs) (hne : t ≠ e) : some g ≠ v.ownBlock := by
  obtain ⟨cs, hb, _⟩ := hb
  exact hb.ne_ownN h hne
theorem cellsC_snoc (C : List (Nat × List Int)) (hs : List Nat) (sz : Nat) (hl : hs.length = C.length) (x : Nat × List Int) (b : Nat) : cellsC (C ++ [x]) (hs ++ [b]) sz = cellsC C hs sz ++ [.int .i64 x.1, .slice (some ⟨b, 0, none⟩) sz sz] := by
  unfold cellsC
  rw [List.zip_append hl.symm, List.flatMap_append]
  simp
theorem pushS_wf' {s : DSt} {k : Nat} {xs : List Int} (h : DWf s) (hk : k < s.nb) (hl : xs.length = s.sz) : DWf { s with ca := pushC s.ca k xs } :=
  let h2 := pushS_wf h hk hl; ⟨h2.nb1, h2.nb2, h2.sz0, h2.sz1, h2.dl, h2.cl, h2.cn, h2.f0, h2.f1⟩
theorem RRepX.pushed {w w3 w4 : World} {o : Obj} {r Bm Bs cm cs k hB g cap : Nat} {vc : Value} {G : Nat → Prop} {s : DSt} {C : List (Nat × List Int)} {wh : Int} {hs : List Nat} {xs : List Int} (h : RRepX w r Bm Bs cm cs vc G s C wh) (hk : k < s.nb) (hxl : xs.length = s.sz)
    (hl : hs.length = C.length) (hown : w.ownsRow 0 113 2 vc C.length (cellsC C hs s.sz)) (hel : ∀ i, i < C.length → G (hs.getD i 0) ∧ RowA .u8 5 w (hs.getD i 0) s.sz (fun t => (C.getD i (0, [])).2.getD t 0))
    (hb3 : Below w.heap.size w w3) (hrow : RowA .u8 5 w3 hB s.sz (fun t => xs.getD t 0)) (hhB : w.heap.size ≤ hB)
    (ho4 : w4.ownsRow 0 113 2 (.slice (some ⟨g, 0, none⟩) (C.length + 1) cap) (C.length + 1) (cellsC C hs s.sz ++ [.int .i64 k, .slice (some ⟨hB, 0, none⟩) s.sz s.sz])) (hg4 : (w3.alloc o).grownBy w4 vc.ownBlock) (hat : vc.ownBlock = some g ∨ w.heap.size ≤ g) :
    RRepX (w4.setCell ⟨r, 4, none⟩ (.slice (some ⟨g, 0, none⟩) (C.length + 1) cap)) r Bm Bs cm cs (.slice (some ⟨g, 0, none⟩) (C.length + 1) cap) (fun b => G b ∨ b = hB ∨ b = g) { s with ca := pushC s.ca k xs } (C ++ [(k, xs)]) wh := by
  have hlt : ∀ b, b < w.heap.size → b < w3.heap.size := fun b hb => Nat.lt_of_lt_of_le hb hb3.size
  have hrl := h.blk.lt
  have far4 : ∀ b, b < w.heap.size → some b ≠ vc.ownBlock → w4.heap[b]? = w.heap[b]? := fun b hb hne =>
    (hg4.block b (by rw [size_alloc]; have := hlt b hb; omega) hne).trans ((Below.heap_alloc w3 o b (hlt b hb)).trans (hb3.block b hb))
  have far5 : ∀ b, b ≠ r → (w4.setCell ⟨r, 4, none⟩ (.slice (some ⟨g, 0, none⟩) (C.length + 1) cap)).heap[b]? = w4.heap[b]? := fun b hb => Below.heap_setCell w4 ⟨r, 4, none⟩ _ b hb
  have hr4 : Blk w4 r 74 (rArr s (.slice (some ⟨Bm, 0, none⟩) s.nb cm) (.slice (some ⟨Bs, 0, none⟩) s.nb cs) vc wh) := (far4 r hrl (h.blk.ne_ownN hown (by decide))).trans h.blk
  obtain ⟨mcur, m1, m2, m3⟩ := h.med
  obtain ⟨scur, s1, s2, s3⟩ := h.spo
  have hmr : Bm ≠ r := m1.ne_blk h.blk (by decide)
  have hsr : Bs ≠ r := s1.ne_blk h.blk (by decide)
  have hz4 : w3.heap.size + 1 ≤ w4.heap.size := by have := hg4.size; rw [size_alloc] at this; exact this
  have hgl : g < w4.heap.size := by
    obtain ⟨cur, hc⟩ := own_blockN ho4 g rfl
    exact hc.lt
  have hgr : g ≠ r := by
    rintro rfl
    obtain ⟨cur, hc⟩ := own_blockN ho4 g rfl
    exact hr4.ne_blk hc (by decide) rfl
  have keepRow : ∀ (b : Nat) (f : Nat → Int), RowA .u8 5 w b s.sz f → RowA .u8 5 (w4.setCell ⟨r, 4, none⟩ (.slice (some ⟨g, 0, none⟩) (C.length + 1) cap)) b s.sz f := fun b f hf =>
    (hf.keep (far4 b hf.lt (hf.ne_ownN hown (by decide)))).keep (far5 b (hf.ne_blk h.blk (by decide)))
  have keepL : ∀ v ys, OwnL G w s.sz v ys → OwnL (fun b => G b ∨ b = hB ∨ b = g) (w4.setCell ⟨r, 4, none⟩ (.slice (some ⟨g, 0, none⟩) (C.length + 1) cap)) s.sz v ys := fun v ys ⟨b, e, hG, hf⟩ => ⟨b, e, .inl hG, keepRow b _ hf⟩
  have hrow5 : RowA .u8 5 (w4.setCell ⟨r, 4, none⟩ (.slice (some ⟨g, 0, none⟩) (C.length + 1) cap)) hB s.sz (fun t => xs.getD t 0) := by
    refine ((hrow.keep ?_).keep (far5 hB (by omega)))
    refine (hg4.block hB (by rw [size_alloc]; have := hrow.lt; omega) ?_).trans (Below.heap_alloc w3 o hB hrow.lt)
    intro e
    obtain ⟨cur, hc⟩ := own_blockN hown hB e.symm
    have := hc.lt; omega
  refine ⟨pushS_wf' h.wf hk hxl, hr4.set 4 _, ?_, ?_, ?_, fun j => ?_, fun x hx => ?_, fun b hb => ?_, fun b hb => ?_, h.ne⟩
  · refine ⟨mcur, (far5 Bm hmr).trans ((far4 Bm m1.lt (m1.ne_ownN hown (by decide))).trans m1), m2, fun i hi => ?_⟩
    obtain ⟨v, a, b⟩ := m3 i hi
    exact ⟨v, a, keepL v _ b⟩
  · exact ⟨scur, (far5 Bs hsr).trans ((far4 Bs s1.lt (s1.ne_ownN hown (by decide))).trans s1), s2, s3⟩
  · refine ⟨hs ++ [hB], by simp [hl], ?_, fun i hi => ?_⟩
    · rw [cellsC_snoc C hs s.sz hl, List.length_append]
      exact own_keep2 ho4 (fun g' hg' => far5 g' (by simp only [Value.ownBlock, Option.some.injEq] at hg'; omega))
    · rw [List.length_append] at hi
      by_cases e : i < C.length
      · obtain ⟨a, b⟩ := hel i e
        rw [List.getD_eq_getElem?_getD, List.getElem?_append_left (by omega), ← List.getD_eq_getElem?_getD, List.getD_eq_getElem?_getD (l := C ++ _), List.getElem?_append_left e, ← List.getD_eq_getElem?_getD]
        exact ⟨.inl a, keepRow _ _ b⟩
      · obtain rfl : i = C.length := by simp at hi; omega
        rw [List.getD_eq_getElem?_getD, List.getElem?_append_right (by omega), hl, Nat.sub_self, List.getD_eq_getElem?_getD (l := C ++ _), List.getElem?_append_right (Nat.le_refl _), Nat.sub_self]
        exact ⟨.inr (.inl rfl), hrow5⟩
  · show pushC s.ca k xs j = _
    rw [partC_snoc]
    unfold pushC
    by_cases e : j = k
    · subst e; rw [if_pos rfl, if_pos rfl, h.rel]
    · rw [if_neg e, if_neg (fun h => e h.symm), h.rel]
  · rcases List.mem_append.1 hx with hx | hx
    · exact h.inr x hx
    · simp only [List.mem_singleton] at hx; rw [hx]; exact hk
  · simp only [Value.ownBlock, Option.some.injEq] at hb; exact .inr (.inr hb.symm)
  · rw [size_setCell]
    have hBm := m1.lt
    have hBs := s1.lt
    rcases hb with hb | rfl | rfl
    · obtain ⟨a, b2, c, d⟩ := h.apart b hb
      exact ⟨by have := hb3.size; omega, b2, c, d⟩
    · exact ⟨by have := hrow.lt; omega, by omega, by omega, by omega⟩
    · refine ⟨hgl, hgr, ?_, ?_⟩
      · rintro rfl
        obtain ⟨cur, hc⟩ := own_blockN ho4 b rfl
        have hm4 : Blk w4 b 22 mcur := (far4 b m1.lt (m1.ne_ownN hown (by decide))).trans m1
        exact hm4.ne_blk hc (by decide) rfl
      · rintro rfl
        obtain ⟨cur, hc⟩ := own_blockN ho4 b rfl
        have hm4 : Blk w4 b 4 scur := (far4 b s1.lt (s1.ne_ownN hown (by decide))).trans s1
        exact hm4.ne_blk hc (by decide) rfl
end Go.Proofs.YtigfcoibbmndpaaGreat
