/- The reference's disk in the world. -/
import Derived.Test.YtigfcoibbmndpaaGreatSam2
import Derived.Outline
namespace Go.Proofs.YtigfcoibbmndpaaGreat
open Go.RowKit
open Go.ChangeMaps
set_option linter.unusedVariables false
set_option linter.unusedSimpArgs false
def rArr (s : DSt) (vm vs vc : Value) (wh : Int) : Array Value := #[.int .i64 s.nb, .int .i64 s.sz, vm, vs, vc, .bool (!s.off), .int .i64 (if s.fused = true then s.fuse else -1), .int .i64 s.c0, .int .i64 s.c1, .int .i64 s.c2, .int .i64 s.c3, .int .i64 wh]
/-- The cached writes of block k, out of the one list. -/
def partC (C : List (Nat × List Int)) (k : Nat) : List (List Int) := (C.filter fun x => decide (x.1 = k)).map Prod.snd
theorem partC_snoc (C : List (Nat × List Int)) (j : Nat) (xs : List Int) (k : Nat) : partC (C ++ [(j, xs)]) k = if j = k then partC C k ++ [xs] else partC C k := by
  unfold partC
  rw [List.filter_append, List.map_append]
  by_cases h : j = k
  · simp [h]
  · simp [h]
theorem partC_drop (C : List (Nat × List Int)) (j k : Nat) : partC (C.filter fun x => decide (x.1 ≠ j)) k = if k = j then [] else partC C k := by
  unfold partC
  rw [List.filter_filter]
  by_cases h : k = j
  · subst h
    rw [if_pos rfl]
    have : (C.filter fun x => decide (x.1 = k) && decide (x.1 ≠ k)) = [] := List.filter_eq_nil_iff.2 (fun x _ => by simp)
    rw [this]; rfl
  · rw [if_neg h]
    congr 1
    refine List.filter_congr (fun x _ => ?_)
    by_cases e : x.1 = k
    · simp [e, h]
    · simp [e]
/-- The cells of the one list. -/
def cellsC (C : List (Nat × List Int)) (hs : List Nat) (sz : Nat) : List Value := (C.zip hs).flatMap fun x => [.int .i64 x.1.1, .slice (some ⟨x.2, 0, none⟩) sz sz]
/-- A list of bytes of the reference's own: in a block of G. -/
def OwnL (G : Nat → Prop) (w : World) (sz : Nat) (v : Value) (xs : List Int) : Prop := ∃ h, v = .slice (some ⟨h, 0, none⟩) sz sz ∧ G h ∧ RowA .u8 5 w h sz (fun t => xs.getD t 0)
structure RRepX (w : World) (r Bm Bs cm cs : Nat) (vc : Value) (G : Nat → Prop) (s : DSt) (C : List (Nat × List Int)) (wh : Int) : Prop where
  wf : DWf s
  blk : Blk w r 74 (rArr s (.slice (some ⟨Bm, 0, none⟩) s.nb cm) (.slice (some ⟨Bs, 0, none⟩) s.nb cs) vc wh)
  med : ∃ cur, Blk w Bm 22 cur ∧ s.nb ≤ cm ∧ ∀ k, k < s.nb → ∃ v, cur[k]? = some v ∧ OwnL G w s.sz v (s.dur k)
  spo : ∃ cur, Blk w Bs 4 cur ∧ s.nb ≤ cs ∧ ∀ k, k < s.nb → cur[k]? = some (.bool (s.sp k))
  cac : ∃ hs, hs.length = C.length ∧ w.ownsRow 0 113 2 vc C.length (cellsC C hs s.sz) ∧ ∀ i, i < C.length → G (hs.getD i 0) ∧ RowA .u8 5 w (hs.getD i 0) s.sz (fun t => (C.getD i (0, [])).2.getD t 0)
  rel : ∀ k, s.ca k = partC C k
  inr : ∀ x ∈ C, x.1 < s.nb
  vco : ∀ g, vc.ownBlock = some g → G g
  apart : ∀ b, G b → b < w.heap.size ∧ b ≠ r ∧ b ≠ Bm ∧ b ≠ Bs
  ne : Bm ≠ Bs
def ownR (r Bm Bs : Nat) (G : Nat → Prop) (b : Nat) : Prop := b = r ∨ b = Bm ∨ b = Bs ∨ G b
/-- Block r holds the reference's disk s; wh: the block of the last answer's error; P: the blocks that are its own. -/
def RRep (P : Nat → Prop) (w : World) (r : Nat) (s : DSt) (wh : Int) (n : Nat) : Prop := ∃ Bm Bs cm cs vc G C, RRepX w r Bm Bs cm cs vc G s C wh ∧ (∀ b, ownR r Bm Bs G b → P b) ∧ (∀ b, P b → b < w.heap.size) ∧ C.length ≤ n
def RStep (P : Nat → Prop) (w w' : World) (r : Nat) (s : DSt) (wh : Int) (n : Nat) : Prop := OnlyP P w w' ∧ ∃ P', RRep P' w' r s wh n ∧ ∀ b, P' b → P b ∨ w.heap.size ≤ b
theorem OwnL.keep {G G' : Nat → Prop} {w w1 : World} {sz : Nat} {v : Value} {xs : List Int} (h : OwnL G w sz v xs) (hk : ∀ b, G b → w1.heap[b]? = w.heap[b]?) (hG : ∀ b, G b → G' b) : OwnL G' w1 sz v xs :=
  let ⟨b, e, hg, hr⟩ := h; ⟨b, e, hG b hg, hr.keep (hk b hg)⟩
theorem own_keep2 {w w1 : World} {B : Nat} {e : TypeId} {n k : Nat} {v : Value} {xs : List Value} (h : w.ownsRow B e k v n xs) (hk : ∀ g, v.ownBlock = some g → w1.heap[g]? = w.heap[g]?) : w1.ownsRow B e k v n xs := by
  refine ⟨h.1, ?_⟩
  rcases h.2 with h | ⟨g, cap, cur, rfl, a1, a2, a3⟩
  · exact .inl h
  · exact .inr ⟨g, cap, cur, rfl, a1, (hk g rfl).trans a2, a3⟩
theorem RRepX.keep {w w1 : World} {r Bm Bs cm cs : Nat} {vc : Value} {G : Nat → Prop} {s : DSt} {C : List (Nat × List Int)} {wh : Int} (h : RRepX w r Bm Bs cm cs vc G s C wh) (hk : ∀ b, ownR r Bm Bs G b → w1.heap[b]? = w.heap[b]?) (hs : w.heap.size ≤ w1.heap.size) : RRepX w1 r Bm Bs cm cs vc G s C wh := by
  have hG : ∀ b, G b → w1.heap[b]? = w.heap[b]? := fun b hb => hk b (.inr (.inr (.inr hb)))
  refine ⟨h.wf, (hk r (.inl rfl)).trans h.blk, ?_, ?_, ?_, h.rel, h.inr, h.vco, fun b hb => let ⟨a, x⟩ := h.apart b hb; ⟨Nat.lt_of_lt_of_le a hs, x⟩, h.ne⟩
  · obtain ⟨cur, h1, h2, h3⟩ := h.med
    exact ⟨cur, (hk Bm (.inr (.inl rfl))).trans h1, h2, fun k hk => let ⟨v, g1, g2⟩ := h3 k hk; ⟨v, g1, g2.keep hG (fun _ h => h)⟩⟩
  · obtain ⟨cur, h1, h2⟩ := h.spo
    exact ⟨cur, (hk Bs (.inr (.inr (.inl rfl)))).trans h1, h2⟩
  · obtain ⟨hs', h1, h2, h3⟩ := h.cac
    exact ⟨hs', h1, own_keep2 h2 (fun g hg => hG g (h.vco g hg)), fun i hi => let ⟨a, b⟩ := h3 i hi; ⟨a, b.keep (hG _ a)⟩⟩
theorem RRep.keep {P : Nat → Prop} {w w1 : World} {r : Nat} {s : DSt} {wh : Int} {n : Nat} (h : RRep P w r s wh n) (hk : ∀ b, P b → w1.heap[b]? = w.heap[b]?) (hs : w.heap.size ≤ w1.heap.size) : RRep P w1 r s wh n := by
  obtain ⟨Bm, Bs, cm, cs, vc, G, C, hx, h1, h2, h3⟩ := h
  exact ⟨Bm, Bs, cm, cs, vc, G, C, hx.keep (fun b hb => hk b (h1 b hb)) hs, h1, fun b hb => Nat.lt_of_lt_of_le (h2 b hb) hs, h3⟩
theorem RRep.lt {P : Nat → Prop} {w : World} {r : Nat} {s : DSt} {wh : Int} {n : Nat} (h : RRep P w r s wh n) {b : Nat} (hb : P b) : b < w.heap.size := let ⟨_, _, _, _, _, _, _, _, _, hl, _⟩ := h; hl b hb
theorem RRep.wf {P : Nat → Prop} {w : World} {r : Nat} {s : DSt} {wh : Int} {n : Nat} (h : RRep P w r s wh n) : DWf s := let ⟨_, _, _, _, _, _, _, hx, _⟩ := h; hx.wf
theorem RRep.drewN {P : Nat → Prop} {w : World} {r : Nat} {s : DSt} {wh : Int} {n : Nat} (h : RRep P w r s wh n) (m : Nat) : RRep P (w.drewN m) r s wh n := h.keep (fun _ _ => rfl) (Nat.le_refl _)
theorem RRep.below {P : Nat → Prop} {w w1 : World} {r : Nat} {s : DSt} {wh : Int} {n : Nat} (h : RRep P w r s wh n) (hb : Below w.heap.size w w1) : RRep P w1 r s wh n := h.keep (fun b hO => hb.block b (h.lt hO)) hb.size
/-- Only the disk's own cells have turned. -/
theorem RRepX.cells {w w1 : World} {r Bm Bs cm cs : Nat} {vc : Value} {G : Nat → Prop} {s s1 : DSt} {C : List (Nat × List Int)} {wh wh1 : Int} (h : RRepX w r Bm Bs cm cs vc G s C wh)
    (hb : Blk w1 r 74 (rArr s1 (.slice (some ⟨Bm, 0, none⟩) s1.nb cm) (.slice (some ⟨Bs, 0, none⟩) s1.nb cs) vc wh1)) (hfar : ∀ b, b ≠ r → w1.heap[b]? = w.heap[b]?) (hz : w1.heap.size = w.heap.size)
    (hw : DWf s1) (h1 : s1.nb = s.nb) (h2 : s1.sz = s.sz) (h3 : s1.dur = s.dur) (h4 : s1.sp = s.sp) (h5 : s1.ca = s.ca) : RRepX w1 r Bm Bs cm cs vc G s1 C wh1 := by
  have hG : ∀ b, G b → w1.heap[b]? = w.heap[b]? := fun b hb => hfar b (h.apart b hb).2.1
  refine ⟨hw, hb, ?_, ?_, ?_, fun k => by rw [h5]; exact h.rel k, fun x hx => by rw [h1]; exact h.inr x hx, h.vco, fun b hb => by rw [hz]; exact h.apart b hb, h.ne⟩
  · obtain ⟨cur, g1, g2, g3⟩ := h.med
    rw [h1, h2, h3]
    exact ⟨cur, (hfar Bm (g1.ne_blk h.blk (by decide))).trans g1, g2, fun k hk => let ⟨v, a, b⟩ := g3 k hk; ⟨v, a, b.keep hG (fun _ h => h)⟩⟩
  · obtain ⟨cur, g1, g2⟩ := h.spo
    rw [h1, h4]
    exact ⟨cur, (hfar Bs (g1.ne_blk h.blk (by decide))).trans g1, g2⟩
  · obtain ⟨hs', g1, g2, g3⟩ := h.cac
    rw [h2]
    exact ⟨hs', g1, own_keep2 g2 (fun g hg => hG g (h.vco g hg)), fun i hi => let ⟨a, b⟩ := g3 i hi; ⟨a, b.keep (hG _ a)⟩⟩
end Go.Proofs.YtigfcoibbmndpaaGreat
