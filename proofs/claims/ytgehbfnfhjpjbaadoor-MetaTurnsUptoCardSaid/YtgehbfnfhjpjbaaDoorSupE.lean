/- A superblock sealed: the plain side and small laws. -/
import Derived.Test.YtgehbfnfhjpjbaaDoorSupD
import Derived.Lib.BufferWrite
import Derived.Lib.SliceRun
namespace Go.Proofs.YtgehbfnfhjpjbaaDoor
open Go.RowKit
set_option linter.unusedVariables false
set_option linter.unusedSimpArgs false
def lettersL : List Int := [82, 69, 80, 76, 73, 67, 65, 49]
/-- The fields, one behind the other. -/
def fieldsL (s : Sup) : List Int := lettersL ++ be 8 s.sq ++ be 4 s.bl ++ be 4 s.sz ++ be 4 s.sl ++ be 4 s.mr ++ be 8 s.cu ++ be 8 s.bm ++ be 8 s.o1 ++ be 8 s.o2 ++ be 4 s.fl
theorem fieldsL_length (s : Sup) : (fieldsL s).length = 68 := by simp [fieldsL, lettersL, be_length]
/-- What lies ahead of the seal. -/
def headL (s : Sup) : List Int := fieldsL s ++ List.replicate (s.sz.toNat - 100) 0
theorem headL_length (s : Sup) (h : okSize s.sz) : (headL s).length = s.sz.toNat - 32 := by
  simp only [headL, List.length_append, fieldsL_length, List.length_replicate]
  unfold okSize at h; omega
theorem headL_at (s : Sup) (j : Nat) : (headL s).getD j 0 = (fieldsL s).getD j 0 := by
  unfold headL
  rw [List.getD_eq_getElem?_getD, List.getD_eq_getElem?_getD, List.getElem?_append]
  by_cases h : j < (fieldsL s).length
  · rw [if_pos h]
  · rw [if_neg h, List.getElem?_eq_none (by omega : (fieldsL s).length ≤ j), List.getElem?_replicate]
    split <;> rfl
/-- The whole block. -/
def sealL (K : Nat → Int) (S : St) (s : Sup) : List Int := headL s ++ shaF K S (headL s)
theorem sealL_length (K : Nat → Int) (S : St) (s : Sup) (h : okSize s.sz) : (sealL K S s).length = s.sz.toNat := by
  rw [sealL, List.length_append, headL_length s h, shaF_length]
  unfold okSize at h; omega
theorem layF_cat (l xs : List Int) (j : Nat) : layF (fun j => l.getD j 0) l.length xs j = (l ++ xs).getD j 0 := by
  unfold layF
  rw [List.getD_eq_getElem?_getD (l := l ++ xs), List.getElem?_append]
  by_cases h : j < l.length
  · rw [if_neg (by omega), if_pos h]; exact List.getD_eq_getElem?_getD
  · by_cases h2 : j < l.length + xs.length
    · rw [if_pos (by omega), if_neg h, List.getD_eq_getElem?_getD]
    · rw [if_neg (by omega), if_neg h, List.getElem?_eq_none (by omega)]; show l.getD j 0 = _; rw [List.getD_eq_getElem?_getD, List.getElem?_eq_none (by omega)]
theorem wpList_copy_eq {P : Program} (w : World) {ops : Array Oper} {rest : List Oper} {o : Oper} {a : Act} {Q : Exit → Act → World → Prop} (hgd : o.guard = none) (d s : Operand) (t t' : TypeId)
    (ho : o.op = .call { callee := .builtin .copy, args := #[d, s], argTypes := #[t, t'] }) (v u : Value) (hd : a.eval d = v) (hs : a.eval s = u) {v' : Value} {w' : World}
    (hr : ∀ ty, (Builtin.copy_ #[t, t'] ty #[v, u]).run P w = .ok v' w') (h : wpList P ops Q rest (a.put o.dst v') w') : wpList P ops Q (o :: rest) a w :=
  wpList_plain hgd fun K hK => by
    unfold Oper.wp execOp
    simp only [ho, resolve, invoke, builtin, Sem.run_bind, Sem.run_pure, Result.andThen_ok, List.map_toArray, List.map_cons, List.map_nil, hd, hs, hr]
    exact hK _ _ h
/-- What holds while Seal lays its fields: what was laid is l. -/
def SeA (g B N : Nat) (l : List Int) (s : Sup) (w wr : World) : Prop := Below w.heap.size w wr ∧ Blk wr w.heap.size 27 s.arr ∧ Cur wr g B N N l.length (fun j => l.getD j 0)
theorem SeA.laid {g B N n : Nat} {x : Int} {l : List Int} {s : Sup} {w wr w1 : World} (h : SeA g B N l s w wr) (hg : w.heap.size < g) (hB : w.heap.size < B) (h1 : LyA g B N N l.length n n x (fun j => l.getD j 0) wr w1) : SeA g B N (l ++ be n x) s w w1 := by
  obtain ⟨a1, a2, a3⟩ := h
  obtain ⟨b1, b2, c1, c2, c3, c4⟩ := h1
  have e : (be n x).take n = be n x := List.take_of_length_le (by rw [be_length]; omega)
  rw [e] at c2
  refine ⟨a1.trans (b1.below a1.size (by simp; omega)), b1.blk a2 (by simp; omega), ?_, c2.congr (fun j hj => layF_cat l _ j), c3, c4⟩
  rw [List.length_append, be_length]; exact c1
theorem SeA.alloc {g B N : Nat} {l : List Int} {s : Sup} {w wr : World} (h : SeA g B N l s w wr) (o : Obj) : SeA g B N l s w (wr.alloc o) :=
  ⟨h.1.alloc h.1.size o, h.2.1.alloc o, h.2.2.1.alloc o, h.2.2.2.1.alloc o, h.2.2.2.2⟩
theorem SeA.drewN {g B N : Nat} {l : List Int} {s : Sup} {w wr : World} (h : SeA g B N l s w wr) (n : Nat) : SeA g B N l s w (wr.drewN n) :=
  ⟨⟨h.1.os, h.1.tape, h.1.output, h.1.size, h.1.block⟩, h.2.1, h.2.2⟩
theorem made_repl (z : Value) (n : Nat) : madeCells #[z] n = (List.replicate n z).toArray := by
  apply Array.ext_getElem?
  intro i
  by_cases h : i < n
  · rw [made_at _ _ _ h]; simp [h]
  · rw [Array.getElem?_eq_none (by rw [made_size]; omega)]; simp [h]
theorem letters_at (N i : Nat) (h : i < N) (hN : 8 ≤ N) : (splice (madeCells #[Value.int .u8 0] N).toList 0 (lettersL.map (Value.int .u8))).toArray[i]? = some (.int .u8 (lettersL.getD i 0)) := by
  rw [List.getElem?_toArray, made_repl]
  unfold splice
  rw [List.take_zero, List.nil_append, Nat.zero_add, List.length_map, List.getElem?_append, List.length_map]
  by_cases e : i < lettersL.length
  · rw [if_pos e, List.getElem?_map, List.getD_eq_getElem?_getD, List.getElem?_eq_getElem e]; rfl
  · rw [if_neg e, List.getElem?_drop, List.toList_toArray, List.getElem?_replicate, if_pos (by have : lettersL.length = 8 := rfl; omega), List.getD_eq_getElem?_getD, List.getElem?_eq_none (by omega)]; rfl
theorem letters_size (N : Nat) (hN : 8 ≤ N) : (splice (madeCells #[Value.int .u8 0] N).toList 0 (lettersL.map (Value.int .u8))).toArray.size = N := by
  rw [List.size_toArray, length_splice _ _ _ (by show 0 + 8 ≤ _; rw [Array.length_toList, made_size]; omega), Array.length_toList, made_size]
end Go.Proofs.YtgehbfnfhjpjbaaDoor
