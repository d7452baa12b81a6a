/- Small laws on worlds: a block known whole, a list that reads as numbers, what is kept. -/
import Derived.Test.YtgehbfnfhjpjbaaDoorRows
import Derived.WalkKit
import Derived.WalkSpells
import Derived.WalkLawsBesides
import Derived.Deep.OwnRows
import Derived.Lib.Hide
import Derived.StillTailTactics
import Derived.OpenShut
import Derived.Deep.QuietTactic
import Derived.BigQuiet
namespace Go.Proofs.YtgehbfnfhjpjbaaDoor
open Go.RowKit
set_option linter.unusedVariables false
set_option linter.unusedSimpArgs false
theorem bcell {W w1 : World} (hb : Below W.heap.size W w1) : (∀ b o, b < W.heap.size → w1.cell? ⟨b, o, none⟩ = W.cell? ⟨b, o, none⟩) ∧ (∀ b o, b < W.heap.size → w1.frozen? ⟨b, o, none⟩ = W.frozen? ⟨b, o, none⟩) :=
  ⟨fun b o h => hb.cell (p := ⟨b, o, none⟩) h, fun b o h => hb.frozen (p := ⟨b, o, none⟩) h⟩
/-- Block g holds the cells cs, of type t. -/
def Blk (w : World) (g : Nat) (t : TypeId) (cs : Array Value) : Prop := w.heap[g]? = some (.cells cs t (0, 0))
theorem Blk.lt {w : World} {g : Nat} {t : TypeId} {cs : Array Value} (h : Blk w g t cs) : g < w.heap.size := (Array.getElem?_eq_some_iff.1 h).1
theorem Blk.cell {w : World} {g : Nat} {t : TypeId} {cs : Array Value} (h : Blk w g t cs) (i : Nat) : w.cell? ⟨g, i, none⟩ = cs[i]? := cell_of_row w g i cs t (0, 0) h
theorem Blk.free {w : World} {g : Nat} {t : TypeId} {cs : Array Value} (h : Blk w g t cs) (i : Nat) : w.frozen? ⟨g, i, none⟩ = false := by unfold Blk at h; simp [World.frozen?, h]
theorem Blk.set {w : World} {g : Nat} {t : TypeId} {cs : Array Value} (h : Blk w g t cs) (i : Nat) (u : Value) : Blk (w.setCell ⟨g, i, none⟩ u) g t (cs.setIfInBounds i u) := by
  have h' : w.heap[g]? = some (.cells cs t (0, 0)) := h
  show (w.setCell ⟨g, i, none⟩ u).heap[g]? = _
  simp [World.setCell, Array.getElem?_modify, h']
theorem Blk.far {w : World} {g : Nat} {t : TypeId} {cs : Array Value} (h : Blk w g t cs) {p : Addr} (hp : g ≠ p.block) (u : Value) : Blk (w.setCell p u) g t cs := (Below.heap_setCell w p u g hp).trans h
theorem Blk.alloc {w : World} {g : Nat} {t : TypeId} {cs : Array Value} (h : Blk w g t cs) (o : Obj) : Blk (w.alloc o) g t cs := (Below.heap_alloc w o g h.lt).trans h
theorem Blk.drew {w : World} {g : Nat} {t : TypeId} {cs : Array Value} (h : Blk w g t cs) : Blk w.drew g t cs := h
theorem Blk.drewN {w : World} {g : Nat} {t : TypeId} {cs : Array Value} (h : Blk w g t cs) (n : Nat) : Blk (w.drewN n) g t cs := h
theorem Blk.new (w : World) (t : TypeId) (cs : Array Value) : Blk (w.alloc (.cells cs t)) w.heap.size t cs := by
  show (w.heap.push _)[w.heap.size]? = _
  simp
theorem Blk.below {w w1 : World} {g : Nat} {t : TypeId} {cs : Array Value} (h : Blk w g t cs) {B : Nat} (hb : Below B w w1) (hg : g < B) : Blk w1 g t cs := (hb.block g hg).trans h
theorem size_setCell (w : World) (p : Addr) (u : Value) : (w.setCell p u).heap.size = w.heap.size := by simp [World.setCell]
theorem size_alloc (w : World) (o : Obj) : (w.alloc o).heap.size = w.heap.size + 1 := by simp
theorem made_at (z : Value) (n i : Nat) (h : i < n) : (madeCells #[z] n)[i]? = some z := by simp [madeCells, h, Nat.mod_one]
theorem made_size (z : Value) (n : Nat) : (madeCells #[z] n).size = n := size_madeCells _ _

/-- v reads as the numbers xs. -/
def Rd (k : IntKind) (w : World) (v : Value) (xs : List Int) : Prop :=
  (xs = [] ∧ ∃ A c, v = .slice A 0 c) ∨ ∃ b off c, v = .slice (some ⟨b, off, none⟩) xs.length c ∧ 0 < xs.length ∧ xs.length ≤ c ∧ b < w.heap.size ∧ ∀ i, i < xs.length → w.cell? ⟨b, off + i, none⟩ = some (.int k (xs.getD i 0))
theorem Rd.below {k : IntKind} {w w1 : World} {v : Value} {xs : List Int} (h : Rd k w v xs) (hb : Below w.heap.size w w1) : Rd k w1 v xs := by
  rcases h with h | ⟨b, off, c, rfl, h1, h2, h3, h4⟩
  · exact .inl h
  · exact .inr ⟨b, off, c, rfl, h1, h2, Nat.lt_of_lt_of_le h3 hb.size, fun i hi => (hb.cell h3).trans (h4 i hi)⟩
theorem Rd.slice {k : IntKind} {w : World} {v : Value} {xs : List Int} (h : Rd k w v xs) : ∃ A c, v = .slice A xs.length c := by
  rcases h with ⟨rfl, A, c, rfl⟩ | ⟨b, off, c, rfl, _⟩
  · exact ⟨A, c, rfl⟩
  · exact ⟨_, c, rfl⟩
/-- Block B holds n numbers f, of type t. -/
def RowA (k : IntKind) (t : TypeId) (wr : World) (B n : Nat) (f : Nat → Int) : Prop := ∃ cur, Blk wr B t cur ∧ cur.size = n ∧ ∀ i, i < n → cur[i]? = some (.int k (f i))
theorem RowA.keep {k : IntKind} {t : TypeId} {w wr : World} {B n : Nat} {f : Nat → Int} (h : RowA k t w B n f) (hk : wr.heap[B]? = w.heap[B]?) : RowA k t wr B n f := by
  obtain ⟨cur, h3, h4, h5⟩ := h
  exact ⟨cur, hk.trans h3, h4, h5⟩
theorem RowA.below {k : IntKind} {t : TypeId} {w wr : World} {B C n : Nat} {f : Nat → Int} (h : RowA k t w B n f) (hb : Below C w wr) (hB : B < C) : RowA k t wr B n f := h.keep (hb.block B hB)
theorem RowA.drewN {k : IntKind} {t : TypeId} {w : World} {B n : Nat} {f : Nat → Int} (h : RowA k t w B n f) (m : Nat) : RowA k t (w.drewN m) B n f := h
theorem RowA.cell {k : IntKind} {t : TypeId} {wr : World} {B n : Nat} {f : Nat → Int} (h : RowA k t wr B n f) (i : Nat) (hi : i < n) : wr.cell? ⟨B, i, none⟩ = some (.int k (f i)) := by
  obtain ⟨cur, h3, h4, h5⟩ := h
  rw [h3.cell, h5 i hi]
theorem RowA.free {k : IntKind} {t : TypeId} {wr : World} {B n : Nat} {f : Nat → Int} (h : RowA k t wr B n f) (i : Nat) : wr.frozen? ⟨B, i, none⟩ = false := by
  obtain ⟨cur, h3, h4, h5⟩ := h
  exact h3.free i
theorem RowA.lt {k : IntKind} {t : TypeId} {wr : World} {B n : Nat} {f : Nat → Int} (h : RowA k t wr B n f) : B < wr.heap.size := by
  obtain ⟨cur, h3, h4, h5⟩ := h
  exact h3.lt
theorem RowA.congr {k : IntKind} {t : TypeId} {wr : World} {B n : Nat} {f g : Nat → Int} (h : RowA k t wr B n f) (hg : ∀ i, i < n → f i = g i) : RowA k t wr B n g := by
  obtain ⟨cur, h3, h4, h5⟩ := h
  exact ⟨cur, h3, h4, fun i hi => by rw [h5 i hi, hg i hi]⟩
theorem RowA.put {k : IntKind} {t : TypeId} {wr : World} {B n : Nat} {f : Nat → Int} (h : RowA k t wr B n f) (i : Nat) (x : Int) : RowA k t (wr.setCell ⟨B, i, none⟩ (.int k x)) B n (fun j => if j = i then x else f j) := by
  obtain ⟨cur, h3, h4, h5⟩ := h
  refine ⟨_, h3.set i _, by simp [h4], fun j hj => ?_⟩
  rw [Array.getElem?_setIfInBounds]
  by_cases e : i = j
  · subst e; rw [if_pos rfl, if_pos (by omega)]; simp
  · rw [if_neg e, h5 j hj]; dsimp only; rw [if_neg (by omega)]
theorem RowA.far {k : IntKind} {t : TypeId} {wr : World} {B n : Nat} {f : Nat → Int} (h : RowA k t wr B n f) {p : Addr} (hp : B ≠ p.block) (u : Value) : RowA k t (wr.setCell p u) B n f := h.keep (Below.heap_setCell wr p u B hp)
theorem RowA.alloc {k : IntKind} {t : TypeId} {wr : World} {B n : Nat} {f : Nat → Int} (h : RowA k t wr B n f) (o : Obj) : RowA k t (wr.alloc o) B n f := h.keep (Below.heap_alloc wr o B h.lt)
theorem RowA.made (k : IntKind) (t : TypeId) (w : World) (n : Nat) : RowA k t (w.alloc (.cells (madeCells #[.int k 0] n) t)) w.heap.size n (fun _ => 0) :=
  ⟨_, Blk.new _ _ _, made_size _ _, fun i hi => by rw [made_at _ _ _ hi]⟩
theorem RowA.list {k : IntKind} {t : TypeId} {wr : World} {B : Nat} {l : List Int} (h : Blk wr B t (l.map (Value.int k)).toArray) : RowA k t wr B l.length (fun i => l.getD i 0) :=
  ⟨_, h, by simp, fun i hi => by simp [hi]⟩
/-- A part of a row reads as its numbers. -/
theorem RowA.rd {k : IntKind} {t : TypeId} {wr : World} {B n : Nat} {f : Nat → Int} (h : RowA k t wr B n f) (zs : List Int) (c : Nat) (hz : zs.length ≤ n) (hc : zs.length ≤ c) (hf : ∀ i, i < zs.length → f i = zs.getD i 0) : Rd k wr (.slice (some ⟨B, 0, none⟩) zs.length c) zs := by
  by_cases h0 : zs.length = 0
  · left; exact ⟨List.eq_nil_of_length_eq_zero h0, _, _, by rw [h0]⟩
  · exact .inr ⟨B, 0, c, rfl, by omega, hc, h.lt, fun i hi => by rw [Nat.zero_add, h.cell i (by omega), hf i hi]⟩
theorem grown_alloc {W w' : World} {o : Obj} {row : Option Nat} (h : (W.alloc o).grownBy w' row) (hr : row ≠ some W.heap.size) : W.grownBy w' row :=
  ⟨h.os, h.tape, h.output, by have := h.size; rw [size_alloc] at this; omega, fun k hk hne => (h.block k (by rw [size_alloc]; omega) hne).trans (Below.heap_alloc W o k hk)⟩
/-- 'append(s, u)': one element of one cell, to a slice of one's own. -/
theorem app1 {P : Program} {ops : Array Oper} {rest : List Oper} {o : Oper} {a : Act} {Q : Exit → Act → World → Prop} {W : World} (hgd : o.guard = none) (s x : Operand) (t : TypeId)
    (ho : o.op = .call { callee := .builtin .append, args := #[s, x], argTypes := #[t, t] }) (B : Nat) (e : TypeId) (z : Value) (bytes : Nat) (ht : P.underlying t = some (.slice e))
    (hinfo : (P.info? e).map (fun i => (i.zero, i.size, i.bytes)) = some (some z, 1, bytes)) (hz : z.cells.size = 1) (v : Value) (n : Nat) (xs : List Value) (hs : a.eval s = v) (hown : W.ownsRow B e 1 v n xs)
    (u : Value) (c : Nat) (hx : a.eval x = .slice (some ⟨W.heap.size, 0, none⟩) 1 c) (hu : u.oneCell' = true) (hn : n + 1 ≤ maxLen) (hb : (n + 1) * bytes ≤ 140737488355328) (hB : B ≤ W.heap.size)
    (h : ∀ v' w', w'.ownsRow B e 1 v' (n + 1) (xs ++ [u]) → W.grownBy w' v.ownBlock → wpList P ops Q rest (a.put o.dst v') w') : wpList P ops Q (o :: rest) a (W.alloc (.cells #[u] e)) := by
  obtain ⟨i, hi, hzz⟩ := Option.map_eq_some_iff.1 hinfo
  simp only [Prod.mk.injEq] at hzz
  obtain ⟨h0, h1, h2⟩ := hzz
  refine wpList_append_own _ hgd s x t ho B e i z 1 bytes ht hi h0 h1 h2 hz (by decide) v n xs hs (hown.alloc _) ⟨W.heap.size, 0, none⟩ 1 c [u] hx rfl ?_ ?_ hn hb (by rw [size_alloc]; omega) ?_
  · intro j u' hj
    have : j = 0 := by
      rcases j with _ | j
      · rfl
      · simp at hj
    subst this
    simp only [List.getElem?_cons_zero, Option.some.injEq] at hj
    subst hj
    rw [Go.WideShapes.add_plain, Nat.add_zero, (Blk.new W e #[u]).cell]
    rfl
  · intro u' hu'; simp only [List.mem_singleton] at hu'; rw [hu']; exact hu
  · intro v' w' h3 h4 _
    refine h v' w' h3 (grown_alloc h4 ?_)
    intro e1
    have := (hown.lt W.heap.size e1).2
    omega
/-- A slice of one's own: its value, its cells. -/
theorem own_cells {w : World} {B : Nat} {e : TypeId} {v : Value} {n : Nat} {xs : List Value} (h : w.ownsRow B e 1 v n xs) (hp : 0 < n) :
    ∃ g cap, v = .slice (some ⟨g, 0, none⟩) n cap ∧ B ≤ g ∧ g < w.heap.size ∧ n ≤ cap ∧ (∃ cur, Blk w g e cur) ∧ ∀ i, i < n → w.cell? ⟨g, i, none⟩ = xs[i]? := by
  rcases h.2 with ⟨_, h0⟩ | ⟨g, cap, cur, rfl, hB, hb, h1, h2, h3, h4⟩
  · omega
  · exact ⟨g, cap, rfl, hB, (show Blk w g e cur from hb).lt, h1, ⟨cur, hb⟩, fun i hi => h.cellAt i (by omega)⟩
theorem own_block {w : World} {B : Nat} {e : TypeId} {v : Value} {n : Nat} {xs : List Value} (h : w.ownsRow B e 1 v n xs) (g : Nat) (hg : v.ownBlock = some g) : ∃ cur, Blk w g e cur := by
  rcases h.2 with ⟨rfl, h0⟩ | ⟨g', cap, cur, rfl, hB, hb, _⟩
  · simp [Value.ownBlock] at hg
  · simp only [Value.ownBlock, Option.some.injEq] at hg; subst hg; exact ⟨cur, hb⟩
theorem Blk.ne_own {w : World} {B g : Nat} {e t : TypeId} {cs : Array Value} {v : Value} {n : Nat} {xs : List Value} (hb : Blk w g t cs) (h : w.ownsRow B e 1 v n xs) (hne : t ≠ e) : some g ≠ v.ownBlock := by
  intro e1
  obtain ⟨cur, hc⟩ := own_block h g e1.symm
  unfold Blk at hb hc
  rw [hb] at hc
  simp only [Option.some.injEq, Obj.cells.injEq] at hc
  exact hne hc.2.1
theorem RowA.grown {k : IntKind} {t e : TypeId} {w wr : World} {C B n m : Nat} {f : Nat → Int} {v : Value} {xs : List Value} (h : RowA k t w B n f) (ho : w.ownsRow C e 1 v m xs) (hg : w.grownBy wr v.ownBlock) (hne : t ≠ e) : RowA k t wr B n f := by
  obtain ⟨cur, h3, h4⟩ := h
  exact ⟨cur, (hg.block B h3.lt (h3.ne_own ho hne)).trans h3, h4⟩
/-- Block B holds n values f, of type t. -/
def RowV (t : TypeId) (wr : World) (B n : Nat) (f : Nat → Value) : Prop := ∃ cur, Blk wr B t cur ∧ cur.size = n ∧ ∀ i, i < n → cur[i]? = some (f i)
theorem RowV.keep {t : TypeId} {w wr : World} {B n : Nat} {f : Nat → Value} (h : RowV t w B n f) (hk : wr.heap[B]? = w.heap[B]?) : RowV t wr B n f := by
  obtain ⟨cur, h3, h4, h5⟩ := h
  exact ⟨cur, hk.trans h3, h4, h5⟩
theorem RowV.below {t : TypeId} {w wr : World} {B C n : Nat} {f : Nat → Value} (h : RowV t w B n f) (hb : Below C w wr) (hB : B < C) : RowV t wr B n f := h.keep (hb.block B hB)
theorem RowV.cell {t : TypeId} {wr : World} {B n : Nat} {f : Nat → Value} (h : RowV t wr B n f) (i : Nat) (hi : i < n) : wr.cell? ⟨B, i, none⟩ = some (f i) := by
  obtain ⟨cur, h3, h4, h5⟩ := h
  rw [h3.cell, h5 i hi]
theorem RowV.free {t : TypeId} {wr : World} {B n : Nat} {f : Nat → Value} (h : RowV t wr B n f) (i : Nat) : wr.frozen? ⟨B, i, none⟩ = false := by
  obtain ⟨cur, h3, h4, h5⟩ := h
  exact h3.free i
theorem RowV.lt {t : TypeId} {wr : World} {B n : Nat} {f : Nat → Value} (h : RowV t wr B n f) : B < wr.heap.size := by
  obtain ⟨cur, h3, h4, h5⟩ := h
  exact h3.lt
theorem RowV.congr {t : TypeId} {wr : World} {B n : Nat} {f g : Nat → Value} (h : RowV t wr B n f) (hg : ∀ i, i < n → f i = g i) : RowV t wr B n g := by
  obtain ⟨cur, h3, h4, h5⟩ := h
  exact ⟨cur, h3, h4, fun i hi => by rw [h5 i hi, hg i hi]⟩
theorem RowV.put {t : TypeId} {wr : World} {B n : Nat} {f : Nat → Value} (h : RowV t wr B n f) (i : Nat) (x : Value) : RowV t (wr.setCell ⟨B, i, none⟩ x) B n (fun j => if j = i then x else f j) := by
  obtain ⟨cur, h3, h4, h5⟩ := h
  refine ⟨_, h3.set i _, by simp [h4], fun j hj => ?_⟩
  rw [Array.getElem?_setIfInBounds]
  by_cases e : i = j
  · subst e; rw [if_pos rfl, if_pos (by omega)]; simp
  · rw [if_neg e, h5 j hj]; dsimp only; rw [if_neg (by omega)]
theorem RowV.far {t : TypeId} {wr : World} {B n : Nat} {f : Nat → Value} (h : RowV t wr B n f) {p : Addr} (hp : B ≠ p.block) (u : Value) : RowV t (wr.setCell p u) B n f := h.keep (Below.heap_setCell wr p u B hp)
theorem RowV.alloc {t : TypeId} {wr : World} {B n : Nat} {f : Nat → Value} (h : RowV t wr B n f) (o : Obj) : RowV t (wr.alloc o) B n f := h.keep (Below.heap_alloc wr o B h.lt)
theorem RowV.made (z : Value) (t : TypeId) (w : World) (n : Nat) : RowV t (w.alloc (.cells (madeCells #[z] n) t)) w.heap.size n (fun _ => z) :=
  ⟨_, Blk.new _ _ _, made_size _ _, fun i hi => by rw [made_at _ _ _ hi]⟩
/-- Block B, of whatever type, holds n numbers f. -/
def RowG (k : IntKind) (wr : World) (B n : Nat) (f : Nat → Int) : Prop := ∃ t, RowA k t wr B n f
theorem RowG.below {k : IntKind} {w wr : World} {B C n : Nat} {f : Nat → Int} (h : RowG k w B n f) (hb : Below C w wr) (hB : B < C) : RowG k wr B n f := let ⟨t, h⟩ := h; ⟨t, h.below hb hB⟩
theorem RowG.keep {k : IntKind} {w wr : World} {B n : Nat} {f : Nat → Int} (h : RowG k w B n f) (hk : wr.heap[B]? = w.heap[B]?) : RowG k wr B n f := let ⟨t, h⟩ := h; ⟨t, h.keep hk⟩
theorem RowG.drewN {k : IntKind} {w : World} {B n : Nat} {f : Nat → Int} (h : RowG k w B n f) (m : Nat) : RowG k (w.drewN m) B n f := h
theorem RowG.cell {k : IntKind} {wr : World} {B n : Nat} {f : Nat → Int} (h : RowG k wr B n f) (i : Nat) (hi : i < n) : wr.cell? ⟨B, i, none⟩ = some (.int k (f i)) := let ⟨_, h⟩ := h; h.cell i hi
theorem RowG.lt {k : IntKind} {wr : World} {B n : Nat} {f : Nat → Int} (h : RowG k wr B n f) : B < wr.heap.size := let ⟨_, h⟩ := h; h.lt
theorem RowG.far {k : IntKind} {wr : World} {B n : Nat} {f : Nat → Int} (h : RowG k wr B n f) {p : Addr} (hp : B ≠ p.block) (u : Value) : RowG k (wr.setCell p u) B n f := let ⟨t, h⟩ := h; ⟨t, h.far hp u⟩
theorem RowG.alloc {k : IntKind} {wr : World} {B n : Nat} {f : Nat → Int} (h : RowG k wr B n f) (o : Obj) : RowG k (wr.alloc o) B n f := let ⟨t, h⟩ := h; ⟨t, h.alloc o⟩
/-- Block g, of whatever type, holds the cells cs. -/
def BlkG (w : World) (g : Nat) (cs : Array Value) : Prop := ∃ t, Blk w g t cs
theorem BlkG.cell {w : World} {g : Nat} {cs : Array Value} (h : BlkG w g cs) (i : Nat) : w.cell? ⟨g, i, none⟩ = cs[i]? := let ⟨_, h⟩ := h; h.cell i
theorem BlkG.lt {w : World} {g : Nat} {cs : Array Value} (h : BlkG w g cs) : g < w.heap.size := let ⟨_, h⟩ := h; h.lt
theorem BlkG.below {w w1 : World} {g : Nat} {cs : Array Value} (h : BlkG w g cs) {B : Nat} (hb : Below B w w1) (hg : g < B) : BlkG w1 g cs := let ⟨t, h⟩ := h; ⟨t, h.below hb hg⟩
theorem BlkG.alloc {w : World} {g : Nat} {cs : Array Value} (h : BlkG w g cs) (o : Obj) : BlkG (w.alloc o) g cs := let ⟨t, h⟩ := h; ⟨t, h.alloc o⟩
end Go.Proofs.YtgehbfnfhjpjbaaDoor
