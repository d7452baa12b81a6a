/- DumpParses: the law. -/
import Derived.Test.YtbfebfeliddpnaaDoorLzG
namespace Go.Proofs.YtbfebfeliddpnaaDoor
open Go.RowKit
open Go.ChangeMaps
set_option linter.unusedVariables false
set_option linter.unusedSimpArgs false
theorem put12 (w : World) (v0 v1 v2 v3 v4 v5 v6 v7 v8 v9 v10 v11 : Value) : Blk (sets (w.alloc (.cells #[.int .u64 0, .int .i64 0, .int .i64 0, .int .i64 0, .int .u64 0, .int .u64 0, .int .u64 0, .int .u64 0, .int .u32 0, .int .i64 0, .slice none 0 0, .slice none 0 0] 31)) w.heap.size 0 [v0, v1, v2, v3, v4, v5, v6, v7, v8, v9, v10, v11]) w.heap.size 31 #[v0, v1, v2, v3, v4, v5, v6, v7, v8, v9, v10, v11] ∧
    Below w.heap.size w (sets (w.alloc (.cells #[.int .u64 0, .int .i64 0, .int .i64 0, .int .i64 0, .int .u64 0, .int .u64 0, .int .u64 0, .int .u64 0, .int .u32 0, .int .i64 0, .slice none 0 0, .slice none 0 0] 31)) w.heap.size 0 [v0, v1, v2, v3, v4, v5, v6, v7, v8, v9, v10, v11]) := by
  refine ⟨(Blk.new w 31 #[.int .u64 0, .int .i64 0, .int .i64 0, .int .i64 0, .int .u64 0, .int .u64 0, .int .u64 0, .int .u64 0, .int .u32 0, .int .i64 0, .slice none 0 0, .slice none 0 0]).sets _ _ _ _ _ _ _ _ _ _ _ _, ?_⟩
  have h := OnlyP.sets (O := fun _ => False) (w := w) (R := w.heap.size) (.inr (Nat.le_refl _)) [v0, v1, v2, v3, v4, v5, v6, v7, v8, v9, v10, v11] 0 _ ((OnlyP.refl _ w).alloc (.cells #[.int .u64 0, .int .i64 0, .int .i64 0, .int .i64 0, .int .u64 0, .int .u64 0, .int .u64 0, .int .u64 0, .int .u32 0, .int .i64 0, .slice none 0 0, .slice none 0 0] 31))
  exact h.below (Nat.le_refl _) (fun x hx => hx.elim)
theorem app12 {P : Program} {ops : Array Oper} {rest : List Oper} {o : Oper} {a : Act} {Q : Exit → Act → World → Prop} {W : World} (hgd : o.guard = none) (s x : Operand) (t : TypeId)
    (ho : o.op = .call { callee := .builtin .append, args := #[s, x], argTypes := #[t, t] }) (B : Nat) (e : TypeId) (z : Value) (bytes : Nat) (ht : P.underlying t = some (.slice e))
    (hinfo : (P.info? e).map (fun i => (i.zero, i.size, i.bytes)) = some (some z, 12, bytes)) (hz : z.cells.size = 12) (v : Value) (n : Nat) (xs : List Value) (hs : a.eval s = v) (hown : W.ownsRow B e 12 v n xs)
    (us : List Value) (hul : us.length = 12) (c : Nat) (hx : a.eval x = .slice (some ⟨W.heap.size, 0, none⟩) 1 c) (hu : ∀ u ∈ us, u.oneCell' = true) (hn : n + 1 ≤ maxLen) (hb : (n + 1) * bytes ≤ 140737488355328) (hB : B ≤ W.heap.size)
    (h : ∀ v' w', w'.ownsRow B e 12 v' (n + 1) (xs ++ us) → W.grownBy w' v.ownBlock → wpList P ops Q rest (a.put o.dst v') w') : wpList P ops Q (o :: rest) a (W.alloc (.cells us.toArray e)) := by
  obtain ⟨i, hi, hzz⟩ := Option.map_eq_some_iff.1 hinfo
  simp only [Prod.mk.injEq] at hzz
  obtain ⟨h0, h1, h2⟩ := hzz
  refine wpList_append_own _ hgd s x t ho B e i z 12 bytes ht hi h0 h1 h2 hz (by decide) v n xs hs (hown.alloc _) ⟨W.heap.size, 0, none⟩ 1 c us hx (by rw [hul]) ?_ hu hn hb (by rw [size_alloc]; omega) ?_
  · have h9 := World.news_of_block (cs := us.toArray) (t := e) (fr := (0, 0)) (Blk.new W e us.toArray)
    intro j u hj
    exact h9 j u (by simpa using hj)
  · intro v' w' h3 h4 _
    refine h v' w' h3 (grown_alloc h4 ?_)
    intro e1
    have := (hown.lt W.heap.size e1).2
    omega
theorem info_dump : (Tryd.prog.info? 31).map (fun i => (i.zero, i.size, i.bytes)) = some (some (.agg #[.int .u64 0, .int .i64 0, .int .i64 0, .int .i64 0, .int .u64 0, .int .u64 0, .int .u64 0, .int .u64 0, .int .u32 0, .int .i64 0, .slice none 0 0, .slice none 0 0]), 12, 128) := by kernel_rfl
theorem FlagTab.heap {w w1 : World} (h : FlagTab w) (hk : w1.heap[0]? = w.heap[0]?) : FlagTab w1 := by
  obtain ⟨t, ht⟩ := h
  exact ⟨t, hk.trans ht⟩
end Go.Proofs.YtbfebfeliddpnaaDoor
