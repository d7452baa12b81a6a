/- The book of the lists that were handed out: keep. -/
import Derived.Test.YtbfebfeliddpnaaDoorLzC
import Derived.Laws.OwnMore
import Derived.Deep.AppendLies
import Derived.Deep.RegionHeld3
namespace Go.Proofs.YtbfebfeliddpnaaDoor
open Go.RowKit
open Go.ChangeMaps
set_option linter.unusedVariables false
set_option linter.unusedSimpArgs false
def mkW (i : Nat) : Int := 14987979559889010689 + (i : Int)
def mkI (i : Nat) : Int := -1000 - (i : Int)
/-- Each of the slices holds its mark alone, in a block of S, of numbers. -/
def MkL (k : IntKind) (T : TypeId) (f : Nat → Int) (w : World) (S : Nat → Prop) (L : List Value) : Prop := ∀ i v, L[i]? = some v → ∃ c, c ≤ 200 ∧ Rd k w v (List.replicate c (f (i / 2))) ∧ ∀ g, v.ownBlock = some g → S g ∧ ∃ cs, Blk w g T cs
structure BkS (B : Nat) (w : World) (p n : Nat) (S : Nat → Prop) (vW vI : Value) (LW LI : List Value) : Prop where
  blk : Blk w p 41 #[vW, vI]
  hp : B ≤ p
  ws : w.ownsRow B 28 1 vW (2 * n) LW
  is : w.ownsRow B 29 1 vI (2 * n) LI
  mw : MkL .u64 22 mkW w S LW
  mi : MkL .i64 3 mkI w S LI
theorem rd_heap {k : IntKind} {w w1 : World} {v : Value} {xs : List Int} (h : Rd k w v xs) (hs : w.heap.size ≤ w1.heap.size) (hk : ∀ g, v.ownBlock = some g → w1.heap[g]? = w.heap[g]?) : Rd k w1 v xs := by
  rcases h with h | ⟨b, off, c, rfl, h1, h2, h3, h4⟩
  · exact .inl h
  · exact .inr ⟨b, off, c, rfl, h1, h2, Nat.lt_of_lt_of_le h3 hs, fun i hi => (cell_of_heap (hk b rfl) _).trans (h4 i hi)⟩
theorem MkL.heap {k : IntKind} {T : TypeId} {f : Nat → Int} {w w1 : World} {S : Nat → Prop} {L : List Value} (h : MkL k T f w S L) (hs : w.heap.size ≤ w1.heap.size) (hk : ∀ g cs, S g → Blk w g T cs → w1.heap[g]? = w.heap[g]?) : MkL k T f w1 S L := fun i v hi => by
  obtain ⟨c, h1, h2, h3⟩ := h i v hi
  refine ⟨c, h1, rd_heap h2 hs (fun g hg => ?_), fun g hg => ?_⟩
  · obtain ⟨h4, cs, h5⟩ := h3 g hg
    exact hk g cs h4 h5
  · obtain ⟨h4, cs, h5⟩ := h3 g hg
    exact ⟨h4, cs, (hk g cs h4 h5).trans h5⟩
theorem MkL.mono {k : IntKind} {T : TypeId} {f : Nat → Int} {w : World} {S S1 : Nat → Prop} {L : List Value} (h : MkL k T f w S L) (hs : ∀ g, S g → S1 g) : MkL k T f w S1 L := fun i v hi => by
  obtain ⟨c, h1, h2, h3⟩ := h i v hi
  exact ⟨c, h1, h2, fun g hg => ⟨hs g (h3 g hg).1, (h3 g hg).2⟩⟩
theorem MkL.snoc2 {k : IntKind} {T : TypeId} {f : Nat → Int} {w : World} {S : Nat → Prop} {L : List Value} {n c : Nat} {v u : Value} (h : MkL k T f w S L) (hn : L.length = 2 * n) (hc : c + 80 ≤ 200) (hv : Rd k w v (List.replicate c (f n))) (hu : Rd k w u (List.replicate (c + 80) (f n)))
    (h1 : ∀ g, v.ownBlock = some g → S g ∧ ∃ cs, Blk w g T cs) (h2 : ∀ g, u.ownBlock = some g → S g ∧ ∃ cs, Blk w g T cs) : MkL k T f w S (L ++ [v, u]) := fun i x hi => by
  rcases Nat.lt_or_ge i (2 * n) with hlt | hge
  · rw [List.getElem?_append_left (by omega)] at hi
    exact h i x hi
  · rw [List.getElem?_append_right (by omega), hn] at hi
    rcases (by omega : i = 2 * n ∨ i = 2 * n + 1 ∨ 2 * n + 2 ≤ i) with rfl | rfl | h9
    · rw [Nat.sub_self] at hi
      simp only [List.getElem?_cons_zero, Option.some.injEq] at hi
      subst hi
      exact ⟨c, by omega, by rw [show 2 * n / 2 = n by omega]; exact hv, h1⟩
    · rw [show 2 * n + 1 - 2 * n = 1 by omega] at hi
      simp only [List.getElem?_cons_succ, List.getElem?_cons_zero, Option.some.injEq] at hi
      subst hi
      exact ⟨c + 80, hc, by rw [show (2 * n + 1) / 2 = n by omega]; exact hu, h2⟩
    · rw [List.getElem?_eq_none (by simp; omega)] at hi
      exact absurd hi (by simp)
/-- The first j of the row's n cells hold x. -/
def FillR (k : IntKind) (t : TypeId) (x : Int) (w0 w1 : World) (v : Value) (n j : Nat) : Prop := OnlyP (fun b => v.ownBlock = some b) w0 w1 ∧ ∃ zs : List Int, w1.ownsRow 0 t 1 v n (zs.map (Value.int k)) ∧ ∀ i, i < j → zs[i]? = some x
theorem FillR.step {k : IntKind} {t : TypeId} {x : Int} {w0 w1 : World} {v : Value} {n j : Nat} (h : FillR k t x w0 w1 v n j) (hj : j < n) :
    ∃ g cap y, v = .slice (some ⟨g, 0, none⟩) n cap ∧ w1.cell? ⟨g, j, none⟩ = some (.int k y) ∧ w1.frozen? ⟨g, j, none⟩ = false ∧ g < w1.heap.size ∧ FillR k t x w0 (w1.setCell ⟨g, j, none⟩ (.int k x)) v n (j + 1) := by
  obtain ⟨ho, zs, hown, hz⟩ := h
  obtain ⟨g, cap, rfl, _, hlt⟩ := hown.form (by omega)
  have hlen := hown.1
  rw [List.length_map, Nat.mul_one] at hlen
  refine ⟨g, cap, zs[j]'(by omega), rfl, ?_, hown.frozenAt j, hlt, ho.set (p := ⟨g, j, none⟩) (.inl rfl) _, zs.set j x, ?_, fun i hi => ?_⟩
  · rw [hown.cellAt j (by omega), List.getElem?_map, List.getElem?_eq_getElem (by omega)]; rfl
  · have h9 := hown.stored j (.int k x)
    rw [List.map_set]
    exact h9.1
  · rw [List.getElem?_set]
    by_cases e : j = i
    · rw [if_pos e, if_pos (by omega)]
    · rw [if_neg e]; exact hz i (by omega)
theorem FillR.done {k : IntKind} {t : TypeId} {x : Int} {w0 w1 : World} {v : Value} {n : Nat} (h : FillR k t x w0 w1 v n n) : OnlyP (fun b => v.ownBlock = some b) w0 w1 ∧ w1.ownsRow 0 t 1 v n (List.replicate n (Value.int k x)) := by
  obtain ⟨ho, zs, hown, hz⟩ := h
  refine ⟨ho, ?_⟩
  have hlen := hown.1
  rw [List.length_map, Nat.mul_one] at hlen
  have : zs = List.replicate n x := List.ext_getElem? (fun i => by
    rcases Nat.lt_or_ge i n with hi | hi
    · rw [hz i hi, List.getElem?_replicate, if_pos hi]
    · rw [List.getElem?_eq_none (by omega), List.getElem?_eq_none (by simp; omega)])
  rw [← List.map_replicate, ← this]
  exact hown
/-- m cells x appended to the row v (of n cells x, in w0); the row v stands. -/
def MoreR (k : IntKind) (t : TypeId) (x : Int) (w0 w1 : World) (v u : Value) (n m : Nat) : Prop :=
  OnlyP (fun b => v.ownBlock = some b) w0 w1 ∧ w1.ownsRow 0 t 1 u (n + m) (List.replicate (n + m) (Value.int k x)) ∧ (∀ g, u.ownBlock = some g → v.ownBlock = some g ∨ w0.heap.size ≤ g) ∧
    ∀ g, v.ownBlock = some g → u.ownBlock = some g ∨ ∃ cs, Blk w1 g t cs ∧ ∀ j, j < n → cs[j]? = some (.int k x)
theorem MoreR.start {k : IntKind} {t : TypeId} {x : Int} {w : World} {v : Value} {n : Nat} (h : w.ownsRow 0 t 1 v n (List.replicate n (Value.int k x))) : MoreR k t x w w v v n 0 :=
  ⟨OnlyP.refl _ _, h, fun g hg => .inl hg, fun g hg => .inl hg⟩
theorem own_cs {k : IntKind} {t : TypeId} {x : Int} {w : World} {u : Value} {n : Nat} (h : w.ownsRow 0 t 1 u n (List.replicate n (Value.int k x))) {g : Nat} (hg : u.ownBlock = some g) : ∃ cs, Blk w g t cs ∧ ∀ j, j < n → cs[j]? = some (.int k x) := by
  rcases h.2 with ⟨rfl, h0⟩ | ⟨g', cap, cur, rfl, h1, h2, h3, h4, h5, h6⟩
  · simp [Value.ownBlock] at hg
  · simp only [Value.ownBlock, Option.some.injEq] at hg
    subst hg
    refine ⟨cur, h2, fun j hj => ?_⟩
    have h7 : (List.replicate n (Value.int k x))[j]? = some (.int k x) := by rw [List.getElem?_replicate, if_pos hj]
    rw [← h6, List.getElem?_take, if_pos (by omega), Array.getElem?_toList] at h7
    exact h7
theorem MoreR.step {k : IntKind} {t : TypeId} {x : Int} {w0 w1 w2 : World} {v u u2 : Value} {n m : Nat} (h : MoreR k t x w0 w1 v u n m) (h1 : w2.ownsRow 0 t 1 u2 (n + m + 1) (List.replicate (n + m) (Value.int k x) ++ [.int k x])) (h2 : w1.grownBy w2 u.ownBlock)
    (h3 : ∀ g, u2.ownBlock = some g → u.ownBlock = some g ∨ w1.heap.size ≤ g) (h4 : ∀ g, u.ownBlock = some g → u2.ownBlock = some g ∨ w2.heap[g]? = w1.heap[g]?) : MoreR k t x w0 w2 v u2 n (m + 1) := by
  obtain ⟨ho, hw, hu, hc⟩ := h
  have hcs : ∀ g cs, Blk w1 g t cs → u.ownBlock ≠ some g → Blk w2 g t cs := fun g cs hb hne => (h2.block g hb.lt (fun h => hne h.symm)).trans hb
  refine ⟨ho.grown h2 (fun g hg => hu g hg), ?_, fun g hg => ?_, fun g hg => ?_⟩
  · have e : List.replicate (n + (m + 1)) (Value.int k x) = List.replicate (n + m) (Value.int k x) ++ [.int k x] := by
      rw [← Nat.add_assoc, List.replicate_succ']
    rw [e]; exact h1
  · rcases h3 g hg with h9 | h9
    · exact hu g h9
    · exact .inr (Nat.le_trans ho.size h9)
  · by_cases e : u.ownBlock = some g
    · rcases h4 g e with h9 | h9
      · exact .inl h9
      · obtain ⟨cs, hb, hcj⟩ := own_cs hw e
        exact .inr ⟨cs, h9.trans hb, fun j hj => hcj j (by omega)⟩
    · rcases hc g hg with h9 | ⟨cs, hb, hcj⟩
      · exact absurd h9 e
      · exact .inr ⟨cs, hcs g cs hb e, hcj⟩
theorem MoreR.vcs {k : IntKind} {t : TypeId} {x : Int} {w0 w1 : World} {v u : Value} {n m : Nat} (h : MoreR k t x w0 w1 v u n m) {g : Nat} (hg : v.ownBlock = some g) : ∃ cs, Blk w1 g t cs ∧ ∀ j, j < n → cs[j]? = some (.int k x) := by
  rcases h.2.2.2 g hg with h9 | h9
  · obtain ⟨cs, hb, hcj⟩ := own_cs h.2.1 h9
    exact ⟨cs, hb, fun j hj => hcj j (by omega)⟩
  · exact h9
theorem MoreR.done {k : IntKind} {t : TypeId} {x : Int} {w0 w1 : World} {v u : Value} {n m : Nat} (h : MoreR k t x w0 w1 v u n m) (hv : w0.ownsRow 0 t 1 v n (List.replicate n (Value.int k x))) : Rd k w1 v (List.replicate n x) ∧ Rd k w1 u (List.replicate (n + m) x) := by
  refine ⟨?_, own_rd (t := t) (n := n + m) (by simp) (by rw [List.map_replicate]; exact h.2.1)⟩
  rcases hv.2 with ⟨rfl, rfl⟩ | ⟨g, cap, cur, rfl, h1, h2, h3, h4, h5, h6⟩
  · exact .inl ⟨rfl, none, 0, rfl⟩
  · rcases Nat.eq_zero_or_pos n with h0 | h0
    · subst h0; exact .inl ⟨rfl, _, cap, rfl⟩
    · obtain ⟨cs, hb, hcj⟩ := h.vcs (g := g) rfl
      refine .inr ⟨g, 0, cap, by rw [List.length_replicate], by rw [List.length_replicate]; exact h0, by rw [List.length_replicate]; exact h3, hb.lt, fun i hi => ?_⟩
      rw [List.length_replicate] at hi
      rw [Nat.zero_add, hb.cell, hcj i hi, List.getD_eq_getElem?_getD, List.getElem?_replicate, if_pos hi]; rfl
end Go.Proofs.YtbfebfeliddpnaaDoor
