/- Worlds of which some blocks are one's own; the laws on maps at the operations. -/
import Derived.Test.YtgehbfnfhjpjbaaDoorMapI
import Derived.Laws.CopyOwn
import Derived.Laws.Tables
namespace Go.Proofs.YtgehbfnfhjpjbaaDoor
open Go.RowKit
open Go.MapKept Go.ChangeMaps
set_option linter.unusedVariables false
set_option linter.unusedSimpArgs false
/-- What was there is as it was, but for the blocks O. -/
structure OnlyP (O : Nat → Prop) (w w' : World) : Prop where
  os : w'.os = w.os
  tape : w'.tape = w.tape
  output : w'.output = w.output
  size : w.heap.size ≤ w'.heap.size
  block : ∀ k, k < w.heap.size → ¬ O k → w'.heap[k]? = w.heap[k]?
theorem heap_setBlock_far (w : World) (b k : Nat) (o : Obj) (h : k ≠ b) : (setBlock w b o).heap[k]? = w.heap[k]? := by
  simp only [setBlock, Array.getElem?_setIfInBounds]
  rw [if_neg (fun e => h e.symm)]
section
variable {O O1 : Nat → Prop} {w w1 w2 : World}
theorem OnlyP.refl (O : Nat → Prop) (w : World) : OnlyP O w w := ⟨rfl, rfl, rfl, Nat.le_refl _, fun _ _ _ => rfl⟩
theorem OnlyP.trans (h : OnlyP O w w1) (h2 : OnlyP O1 w1 w2) (hO : ∀ k, O1 k → O k ∨ w.heap.size ≤ k) : OnlyP O w w2 :=
  ⟨h2.os.trans h.os, h2.tape.trans h.tape, h2.output.trans h.output, Nat.le_trans h.size h2.size, fun k hk hb => (h2.block k (Nat.lt_of_lt_of_le hk h.size) (fun hc => (hO k hc).elim hb (fun h => by omega))).trans (h.block k hk hb)⟩
theorem OnlyP.then (h : OnlyP O w w1) (h2 : OnlyP O w1 w2) : OnlyP O w w2 := h.trans h2 (fun k hk => .inl hk)
theorem OnlyP.mono (h : OnlyP O w w1) (hs : ∀ x, O x → O1 x) : OnlyP O1 w w1 := ⟨h.os, h.tape, h.output, h.size, fun k hk hb => h.block k hk (fun hc => hb (hs k hc))⟩
theorem OnlyP.set (h : OnlyP O w w1) {p : Addr} (hp : O p.block ∨ w.heap.size ≤ p.block) (v : Value) : OnlyP O w (w1.setCell p v) :=
  ⟨h.os, h.tape, h.output, by rw [size_setCell]; exact h.size, fun k hk hb => (Below.heap_setCell w1 p v k (fun e => hp.elim (fun hp => hb (e ▸ hp)) (fun hp => by omega))).trans (h.block k hk hb)⟩
theorem OnlyP.drewN (h : OnlyP O w w1) (n : Nat) : OnlyP O w (w1.drewN n) := ⟨h.os, h.tape, h.output, h.size, h.block⟩
theorem OnlyP.drew (h : OnlyP O w w1) : OnlyP O w w1.drew := ⟨h.os, h.tape, h.output, h.size, h.block⟩
theorem OnlyP.alloc (h : OnlyP O w w1) (o : Obj) : OnlyP O w (w1.alloc o) :=
  ⟨h.os, h.tape, h.output, Nat.le_trans h.size (by simp), fun k hk hb => (Below.heap_alloc w1 o k (Nat.lt_of_lt_of_le hk h.size)).trans (h.block k hk hb)⟩
theorem OnlyP.ofBelow (h : Below w.heap.size w w1) : OnlyP O w w1 := ⟨h.os, h.tape, h.output, h.size, fun k hk _ => h.block k hk⟩
theorem OnlyP.below (h : OnlyP O w w1) {B : Nat} (hB : B ≤ w.heap.size) (hb : ∀ x, O x → B ≤ x) : Below B w w1 :=
  ⟨h.os, h.tape, h.output, h.size, fun k hk => h.block k (Nat.lt_of_lt_of_le hk hB) (fun hc => by have := hb k hc; omega)⟩
theorem OnlyP.one (h : OnlyP O w w1) {b : Nat} (h2 : OneB w1 w2 b) (hb : O b ∨ w.heap.size ≤ b) : OnlyP O w w2 := by
  obtain ⟨o, rfl⟩ := h2
  exact ⟨h.os, h.tape, h.output, by simp [setBlock]; exact h.size, fun k hk hn => (heap_setBlock_far w1 b k o (fun e => hb.elim (fun hb => hn (e ▸ hb)) (fun hb => by omega))).trans (h.block k hk hn)⟩
theorem OnlyP.grown (h : OnlyP O w w1) {row : Option Nat} (h2 : w1.grownBy w2 row) (hr : ∀ g, row = some g → O g ∨ w.heap.size ≤ g) : OnlyP O w w2 :=
  ⟨h2.os.trans h.os, h2.tape.trans h.tape, h2.output.trans h.output, Nat.le_trans h.size h2.size, fun k hk hn => (h2.block k (Nat.lt_of_lt_of_le hk h.size) (fun e => (hr k e.symm).elim hn (fun h => by omega))).trans (h.block k hk hn)⟩
theorem OneB.far {b k : Nat} (h : OneB w w1 b) (hk : k ≠ b) : w1.heap[k]? = w.heap[k]? := by
  obtain ⟨o, rfl⟩ := h
  exact heap_setBlock_far w b k o hk
theorem OneB.size {b : Nat} (h : OneB w w1 b) : w1.heap.size = w.heap.size := by
  obtain ⟨o, rfl⟩ := h; simp [setBlock]
theorem OnlyP.setRow (h : OnlyP O w w1) {g : Nat} (hg : O g ∨ w.heap.size ≤ g) (cs : Array Value) : OnlyP O w (w1.setRow g cs) :=
  ⟨h.os, h.tape, h.output, by rw [size_setRow]; exact h.size, fun k hk hn => (heap_setRow w1 g k cs (fun e => hg.elim (fun hg => hn (e ▸ hg)) (fun hg => by omega))).trans (h.block k hk hn)⟩
theorem MapI.drewN {b : Nat} {F : Int → Option Value} (h : MapI w b F) (n : Nat) : MapI (w.drewN n) b F := h
theorem MapI.alloc {b : Nat} {F : Int → Option Value} (h : MapI w b F) (o : Obj) : MapI (w.alloc o) b F := h.keep (Below.heap_alloc w o b h.lt)
theorem MapI.far {b : Nat} {F : Int → Option Value} (h : MapI w b F) {p : Addr} (hp : b ≠ p.block) (v : Value) : MapI (w.setCell p v) b F := h.keep (Below.heap_setCell w p v b hp)
theorem MapI.below {b B : Nat} {F : Int → Option Value} (h : MapI w b F) (hb : Below B w w1) (hl : b < B) : MapI w1 b F := h.keep (hb.block b hl)
theorem Blk.ne_map {b g : Nat} {t : TypeId} {cs : Array Value} {F : Int → Option Value} (h : Blk w g t cs) (hm : MapI w b F) : g ≠ b := by
  rintro rfl
  obtain ⟨es, c, hb, _⟩ := hm
  unfold Blk at h
  rw [hb] at h; cases h
theorem Blk.ne_blk {b g : Nat} {t t' : TypeId} {cs cs' : Array Value} (h : Blk w g t cs) (h' : Blk w b t' cs') (hne : t ≠ t') : g ≠ b := by
  rintro rfl
  unfold Blk at h h'
  rw [h] at h'
  simp only [Option.some.injEq, Obj.cells.injEq] at h'
  exact hne h'.2.1
theorem RowA.ne_blk {b g n : Nat} {k : IntKind} {t t' : TypeId} {f : Nat → Int} {cs' : Array Value} (h : RowA k t w g n f) (h' : Blk w b t' cs') (hne : t ≠ t') : g ≠ b := by
  obtain ⟨cs, hb, _⟩ := h
  exact hb.ne_blk h' hne
theorem RowA.ne_map {b g n : Nat} {k : IntKind} {t : TypeId} {f : Nat → Int} {F : Int → Option Value} (h : RowA k t w g n f) (hm : MapI w b F) : g ≠ b := by
  obtain ⟨cs, hb, _⟩ := h
  exact hb.ne_map hm
end
section
variable {P : Program} (w : World) {ops : Array Oper} {rest : List Oper} {o : Oper} {a : Act} {Q : Exit → Act → World → Prop} {k e t : TypeId}
theorem wpList_copy_exact (hgd : o.guard = none) (d s : Operand) (dT sT : TypeId)
    (ho : o.op = .call { callee := .builtin .copy, args := #[d, s], argTypes := #[dT, sT] }) (elem : TypeId) (hu : P.underlying dT = some (.slice elem)) (hsz : (P.info? elem).map (·.size) = some 1)
    (g off : Nat) (ad : Addr) (dLen dCap sLen sCap : Nat) (hd : a.eval d = .slice (some ⟨g, off, none⟩) dLen dCap) (hs : a.eval s = .slice (some ad) sLen sCap)
    (cur : List Value) (t : TypeId) (hg : w.heap[g]? = some (.cells cur.toArray t (0, 0))) (cs : List Value) (hn : cs.length = Nat.min sLen dLen)
    (hsrc : ∀ j v, cs[j]? = some v → w.cell? (ad.add j) = some v) (hfit : off + cs.length ≤ cur.length) (h1 : ∀ v ∈ cs, v.oneCell' = true)
    (h : wpList P ops Q rest (a.put o.dst (goInt cs.length)) (w.setRow g (splice cur off cs).toArray)) : wpList P ops Q (o :: rest) a w := by
  refine wpList_plain hgd fun K' hK' => ?_
  have hrun := run_copy_row (P := P) w dT sT o.type elem g off dLen dCap ad sLen sCap cur.toArray t cs hu hsz hg hn hsrc (by simpa using hfit) h1
  unfold Oper.wp
  simp [execOp, ho, resolve, invoke, builtin, hd, hs, hrun, Result.andThen]
  exact hK' _ _ h
theorem wpList_store_I (hg : o.guard = none) (m x v : Operand) (hop : o.op = Op.mapUpdate t m x v) (hk : P.underlying k = some (.int .i64)) (ht : P.underlying t = some (.map k e)) (b : Nat) (F : Int → Option Value) (hm : a.eval m = .map (some b)) (h : MapI w b F) (j : Int) (hw : I64 j) (val : Value) (hx : a.eval x = .int .i64 j) (hv : a.eval v = val)
    (hK : ∀ w', MapI w' b (updI F j (some val)) → OneB w w' b → wpList P ops Q rest (a.put o.dst undef) w') : wpList P ops Q (o :: rest) a w := by
  refine wpList_plain hg fun K' hK' => ?_
  obtain ⟨w', hrun, r1, r2⟩ := h.store hk ht hw val
  unfold Oper.wp
  simp [execOp, hop, hm, hx, hv, hrun, Result.andThen]
  exact hK' _ _ (hK w' r1 r2)
theorem wpList_del_I (hg : o.guard = none) (m x : Operand) (hop : o.op = Op.call { callee := Callee.builtin Builtin.delete, args := #[m, x], argTypes := #[t, k] }) (b : Nat) (hm : a.eval m = .map (some b)) (j : Int) (hx : a.eval x = .int .i64 j) (Post : World → Prop)
    (h : ∀ ty, ∃ w', (Builtin.delete_ #[t, k] ty #[.map (some b), .int .i64 j]).run P w = .ok (.tuple #[]) w' ∧ Post w' ∧ OneB w w' b)
    (hK : ∀ w', Post w' → OneB w w' b → wpList P ops Q rest (a.put o.dst (.tuple #[])) w') : wpList P ops Q (o :: rest) a w := by
  refine wpList_plain hg fun K' hK' => ?_
  obtain ⟨w', hrun, r1, r2⟩ := h o.type
  unfold Oper.wp
  simp [execOp, hop, resolve, invoke, builtin, hm, hx, hrun, Result.andThen]
  exact hK' _ _ (hK w' r1 r2)
theorem wpList_range_I (hg : o.guard = none) (m : Operand) (hop : o.op = Op.range t m) (ht : P.underlying t = some (.map k e)) (b : Nat) (F : Int → Option Value) (hm : a.eval m = .map (some b)) (h : MapI w b F)
    (hK : ∀ w' n, RangeI w' b w.heap.size F (fun j => (F j).isSome) n → (∃ o, w' = w.alloc o) → wpList P ops Q rest (a.put o.dst (.pointer (some ⟨w.heap.size, 0, none⟩))) w') : wpList P ops Q (o :: rest) a w := by
  refine wpList_plain hg fun K' hK' => ?_
  obtain ⟨w', n, hrun, r1, r2⟩ := h.range ht
  unfold Oper.wp
  simp [execOp, hop, hm, hrun, Result.andThen]
  exact hK' _ _ (hK w' n r1 r2)
theorem wpList_next_I (hg : o.guard = none) (it : Operand) (hop : o.op = Op.next it false) (b r : Nat) (F : Int → Option Value) (L : Int → Bool) (n : Nat) (hit : a.eval it = .pointer (some ⟨r, 0, none⟩)) (h : RangeI w b r F L n)
    (hDone : n = 0 → (∀ j, L j = false) → wpList P ops Q rest (a.put o.dst (.tuple #[.bool false])) w)
    (hMore : ∀ (j : Int) (v : Value) (w' : World) (n' : Nat), I64 j → L j = true → F j = some v → RangeI w' b r F (fun i => L i && !decide (i = j)) n' → n' < n → w.grownBy w' (some r) → w'.heap.size = w.heap.size → (Instr.entry (.pointer (some ⟨r, 0, none⟩))).run P w' = .ok (.tuple #[.int .i64 j, v]) w' → wpList P ops Q rest (a.put o.dst (.tuple #[.bool true, .int .i64 j, v])) w') :
    wpList P ops Q (o :: rest) a w := by
  refine wpList_plain hg fun K' hK' => ?_
  unfold Oper.wp
  rcases h.next (P := P) o.type with ⟨h0, hl, hrun⟩ | ⟨j, v, w', n', hw, hlj, hF, hrun, hrg, hlt, hgr, hsz, hen⟩
  · simp [execOp, hop, hit, hrun, Result.andThen]
    exact hK' _ _ (hDone h0 hl)
  · simp [execOp, hop, hit, hrun, Result.andThen]
    exact hK' _ _ (hMore j v w' n' hw hlj hF hrg hlt hgr hsz hen)
end
end Go.Proofs.YtgehbfnfhjpjbaaDoor
