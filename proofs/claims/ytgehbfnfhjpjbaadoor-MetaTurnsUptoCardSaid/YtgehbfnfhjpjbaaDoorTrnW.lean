/- A disk beside other blocks, in a law that uses meta's calls too. -/
import Derived.Test.YtgehbfnfhjpjbaaDoorTrnP
import Derived.Outline
import Derived.Deep.CutRange
namespace Go.Proofs.YtgehbfnfhjpjbaaDoor
open Go.RowKit
open Go.ChangeMaps
set_option linter.unusedVariables false
set_option linter.unusedSimpArgs false
theorem fuseT_wf {s : DSt} (h : DWf s) (n : Int) (hn : n < 9223372036854775808) : DWf (fuseS s n) :=
  ⟨h.nb1, h.nb2, h.sz0, h.sz1, h.dl, h.cl, h.cn, by show 0 ≤ max n 0; omega, by show max n 0 < _; omega⟩
theorem fuseT_ok (O : Nat → Prop) (w : World) (d : Nat) (s : DSt) (n : Int) (h : DRep O w d s) (hn : n < 9223372036854775808) :
    Calls Tryd.prog 6 #[.pointer (some ⟨d, 0, none⟩), .int .i64 n] w (DoneQ O w d (fuseS s n)) := by
  obtain ⟨m, c, B, ms, mc, F, G, hx, hO, hl⟩ := h
  refine (fuse_blk w d m c s n hx.blk).mono ?_
  rintro e w' ⟨rfl, ho, hb'⟩
  exact ⟨rfl, (ho.cellsX hx hb' (fuseT_wf hx.wf n hn) rfl rfl rfl rfl rfl).rep hO hl (ho.only (hO d (.inl rfl))) (fun b hb => .inl hb)⟩
/-- The disk s at d behind the world W; O: its own blocks. -/
structure CurT (W : World) (O : Nat → Prop) (w : World) (d : Nat) (s : DSt) : Prop where
  rep : DRep O w d s
  lo : ∀ b, O b → W.heap.size ≤ b
  bel : Below W.heap.size W w
theorem CurT.step {W w w' : World} {O : Nat → Prop} {d : Nat} {s s' : DSt} (h : CurT W O w d s) (hs : DStep O w w' d s') : ∃ O', CurT W O' w' d s' ∧ ∀ b, O' b → O b ∨ w.heap.size ≤ b := by
  obtain ⟨ho, O', hr, hO⟩ := hs
  refine ⟨O', ⟨hr, fun b hb => (hO b hb).elim (h.lo b) (fun h2 => Nat.le_trans h.bel.size h2), h.bel.trans (ho.below h.bel.size (fun x hx => h.lo x hx))⟩, hO⟩
theorem CurT.below {W w w' : World} {O : Nat → Prop} {d : Nat} {s : DSt} (h : CurT W O w d s) (hb : Below w.heap.size w w') : CurT W O w' d s :=
  ⟨h.rep.below hb, h.lo, h.bel.trans ⟨hb.os, hb.tape, hb.output, hb.size, fun b hbb => hb.block b (Nat.lt_of_lt_of_le hbb h.bel.size)⟩⟩
theorem CurT.set {W w : World} {O : Nat → Prop} {d : Nat} {s : DSt} (h : CurT W O w d s) {p : Addr} (hn : ¬ O p.block) (hW : W.heap.size ≤ p.block) (v : Value) : CurT W O (w.setCell p v) d s :=
  ⟨h.rep.keep (fun b hb => Below.heap_setCell w p v b (fun e => hn (e ▸ hb))) (by rw [size_setCell]; exact Nat.le_refl _), h.lo, h.bel.trans ((OnlyP.refl (fun b => b = p.block) w).set (p := p) (.inl rfl) v |>.below h.bel.size (fun x hx => by rw [hx]; exact hW))⟩
theorem CurT.drew {W w : World} {O : Nat → Prop} {d : Nat} {s : DSt} (h : CurT W O w d s) : CurT W O w.drew d s := h.below ⟨rfl, rfl, rfl, Nat.le_refl _, fun _ _ => rfl⟩
theorem CurT.grown {W w w' : World} {O : Nat → Prop} {d : Nat} {s : DSt} (h : CurT W O w d s) {row : Option Nat} (hg : w.grownBy w' row) (hn : ∀ g, row = some g → ¬ O g ∧ W.heap.size ≤ g) : CurT W O w' d s :=
  ⟨h.rep.keep (fun b hb => hg.block b (h.rep.lt hb) (fun e => (hn b e.symm).1 hb)) hg.size, h.lo, h.bel.trans ⟨hg.os, hg.tape, hg.output, hg.size, fun b hb => hg.block b (Nat.lt_of_lt_of_le hb h.bel.size) (fun e => by have := (hn b e.symm).2; omega)⟩⟩
theorem own_slT {w : World} {B : Nat} {e : TypeId} {k n : Nat} {v : Value} {xs : List Value} (h : w.ownsRow B e k v n xs) : ∃ A c, v = .slice A n c := by
  rcases h.2 with ⟨rfl, h0⟩ | ⟨g, cap, cur, rfl, _⟩
  · exact ⟨none, 0, by rw [h0]⟩
  · exact ⟨_, _, rfl⟩
theorem own_keepT {w w1 : World} {B : Nat} {e : TypeId} {n k : Nat} {v : Value} {xs : List Value} (h : w.ownsRow B e k v n xs) (hk : ∀ g, v.ownBlock = some g → w1.heap[g]? = w.heap[g]?) : w1.ownsRow B e k v n xs := by
  refine ⟨h.1, ?_⟩
  rcases h.2 with h2 | ⟨g, cap, cur, rfl, h1, h2, h3⟩
  · exact .inl h2
  · exact .inr ⟨g, cap, cur, rfl, h1, (hk g rfl).trans h2, h3⟩
end Go.Proofs.YtgehbfnfhjpjbaaDoor
