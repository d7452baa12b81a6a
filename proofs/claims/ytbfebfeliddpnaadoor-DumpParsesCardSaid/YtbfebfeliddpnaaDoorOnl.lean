/- Worlds of which some blocks are one's own. -/
import Derived.Test.YtbfebfeliddpnaaDoorHp
import Derived.Laws.CopyOwn
namespace Go.Proofs.YtbfebfeliddpnaaDoor
open Go.RowKit
set_option linter.unusedVariables false
set_option linter.unusedSimpArgs false
/-- What was there is as it was, but for the blocks O. -/
structure OnlyP (O : Nat → Prop) (w w' : World) : Prop where
  os : w'.os = w.os
  tape : w'.tape = w.tape
  output : w'.output = w.output
  size : w.heap.size ≤ w'.heap.size
  block : ∀ k, k < w.heap.size → ¬ O k → w'.heap[k]? = w.heap[k]?
section
variable {O O1 : Nat → Prop} {w w1 w2 : World}
theorem OnlyP.refl (O : Nat → Prop) (w : World) : OnlyP O w w := ⟨rfl, rfl, rfl, Nat.le_refl _, fun _ _ _ => rfl⟩
theorem OnlyP.trans (h : OnlyP O w w1) (h2 : OnlyP O1 w1 w2) (hO : ∀ k, O1 k → O k ∨ w.heap.size ≤ k) : OnlyP O w w2 :=
  ⟨h2.os.trans h.os, h2.tape.trans h.tape, h2.output.trans h.output, Nat.le_trans h.size h2.size, fun k hk hb => (h2.block k (Nat.lt_of_lt_of_le hk h.size) (fun hc => (hO k hc).elim hb (fun h => by omega))).trans (h.block k hk hb)⟩
theorem OnlyP.then (h : OnlyP O w w1) (h2 : OnlyP O w1 w2) : OnlyP O w w2 := h.trans h2 (fun k hk => .inl hk)
theorem OnlyP.mono (h : OnlyP O w w1) (hs : ∀ x, O x → O1 x) : OnlyP O1 w w1 := ⟨h.os, h.tape, h.output, h.size, fun k hk hb => h.block k hk (fun hc => hb (hs k hc))⟩
theorem OnlyP.set (h : OnlyP O w w1) {p : Addr} (hp : O p.block ∨ w.heap.size ≤ p.block) (v : Value) : OnlyP O w (w1.setCell p v) :=
  ⟨h.os, h.tape, h.output, by rw [size_setCell]; exact h.size, fun k hk hb => (Below.heap_setCell w1 p v k (fun e => hp.elim (fun hp => hb (e ▸ hp)) (fun hp => by omega))).trans (h.block k hk hb)⟩
theorem OnlyP.drewN (h : OnlyP O w w1) (n : Nat) : OnlyP O w (w1.drewN n) := ⟨h.os, h.tape, h.output, h.size, h.block⟩
theorem OnlyP.drew (h : OnlyP O w w1) : OnlyP O w w1.drew := ⟨h.os, h.tape, h.output, h.size, h.block⟩
theorem OnlyP.alloc (h : OnlyP O w w1) (o : Obj) : OnlyP O w (w1.alloc o) :=
  ⟨h.os, h.tape, h.output, Nat.le_trans h.size (by simp), fun k hk hb => (Below.heap_alloc w1 o k (Nat.lt_of_lt_of_le hk h.size)).trans (h.block k hk hb)⟩
theorem OnlyP.ofBelow (h : Below w.heap.size w w1) : OnlyP O w w1 := ⟨h.os, h.tape, h.output, h.size, fun k hk _ => h.block k hk⟩
theorem OnlyP.below (h : OnlyP O w w1) {B : Nat} (hB : B ≤ w.heap.size) (hb : ∀ x, O x → B ≤ x) : Below B w w1 :=
  ⟨h.os, h.tape, h.output, h.size, fun k hk => h.block k (Nat.lt_of_lt_of_le hk hB) (fun hc => by have := hb k hc; omega)⟩
theorem OnlyP.grown (h : OnlyP O w w1) {row : Option Nat} (h2 : w1.grownBy w2 row) (hr : ∀ g, row = some g → O g ∨ w.heap.size ≤ g) : OnlyP O w w2 :=
  ⟨h2.os.trans h.os, h2.tape.trans h.tape, h2.output.trans h.output, Nat.le_trans h.size h2.size, fun k hk hn => (h2.block k (Nat.lt_of_lt_of_le hk h.size) (fun e => (hr k e.symm).elim hn (fun h => by omega))).trans (h.block k hk hn)⟩
theorem below_drewN {B : Nat} (h : Below B w w1) (n : Nat) : Below B w (w1.drewN n) := ⟨h.os, h.tape, h.output, h.size, h.block⟩
theorem Blk.setRow {g : Nat} {t : TypeId} {cs : Array Value} (h : Blk w g t cs) (cs' : Array Value) : Blk (w.setRow g cs') g t cs' := by
  have h' : w.heap[g]? = some (.cells cs t (0, 0)) := h
  show (w.setRow g cs').heap[g]? = _
  simp [World.setRow, Array.getElem?_modify, h']
theorem heap_setRow (w : World) (g k : Nat) (cs : Array Value) (h : k ≠ g) : (w.setRow g cs).heap[k]? = w.heap[k]? := by
  simp only [World.setRow, Array.getElem?_modify]
  rw [if_neg (fun e => h e.symm)]
theorem size_setRow (w : World) (g : Nat) (cs : Array Value) : (w.setRow g cs).heap.size = w.heap.size := by simp [World.setRow]
theorem OnlyP.setRow (h : OnlyP O w w1) {g : Nat} (hg : O g ∨ w.heap.size ≤ g) (cs : Array Value) : OnlyP O w (w1.setRow g cs) :=
  ⟨h.os, h.tape, h.output, by rw [size_setRow]; exact h.size, fun k hk hn => (heap_setRow w1 g k cs (fun e => hg.elim (fun hg => hn (e ▸ hg)) (fun hg => by omega))).trans (h.block k hk hn)⟩
theorem cell_of_heap {w w' : World} {b : Nat} (h : w.heap[b]? = w'.heap[b]?) (o : Nat) : w.cell? ⟨b, o, none⟩ = w'.cell? ⟨b, o, none⟩ := by simp [World.cell?, h]
theorem Blk.ne_blk {b g : Nat} {t t' : TypeId} {cs cs' : Array Value} (h : Blk w g t cs) (h' : Blk w b t' cs') (hne : t ≠ t') : g ≠ b := by
  rintro rfl
  unfold Blk at h h'
  rw [h] at h'
  simp only [Option.some.injEq, Obj.cells.injEq] at h'
  exact hne h'.2.1
theorem RowA.ne_blk {b g n : Nat} {k : IntKind} {t t' : TypeId} {f : Nat → Int} {cs' : Array Value} (h : RowA k t w g n f) (h' : Blk w b t' cs') (hne : t ≠ t') : g ≠ b := by
  obtain ⟨cs, hb, _⟩ := h
  exact hb.ne_blk h' hne
end
end Go.Proofs.YtbfebfeliddpnaaDoor
