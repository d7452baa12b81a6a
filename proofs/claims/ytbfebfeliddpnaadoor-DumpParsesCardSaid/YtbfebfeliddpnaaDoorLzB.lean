/- What Parse gives is short; a dump in the world; appending one cell, what stood there standing. -/
import Derived.Test.YtbfebfeliddpnaaDoorRnN
import Derived.Test.YtbfebfeliddpnaaDoorLzA
import Derived.Maps.AppendAt
namespace Go.Proofs.YtbfebfeliddpnaaDoor
open Go.RowKit
open Go.ChangeMaps
set_option linter.unusedVariables false
set_option linter.unusedSimpArgs false
theorem thenE_ok {α : Type} {x : Except Nat (α × List Tk)} {f : α → List Tk → Except Nat Dm} {m : Dm} (h : thenE x f = .ok m) : ∃ v l, x = .ok (v, l) ∧ f v l = .ok m := by
  cases x with
  | error e => simp [thenE] at h
  | ok y => exact ⟨y.1, y.2, rfl, h⟩
theorem pEnd_inv {m m' : Dm} {l : List Tk} (h : pEnd m l = .ok m') : m' = m := by
  unfold pEnd at h
  split at h
  · exact (Except.ok.inj h).symm
  · exact absurd h (by simp)
  · exact absurd h (by simp)
theorem slotsF_len (s : ByteArray) (most : Nat) : ∀ (n : Nat) (l l1 : List Tk) (vs : List Int), slotsF s most n l = .ok (vs, l1) → vs.length = n
  | 0, l, l1, vs, h => by
    simp only [slotsF, Except.ok.injEq, Prod.mk.injEq] at h
    rw [← h.1]; rfl
  | n + 1, l, l1, vs, h => by
    simp only [slotsF] at h
    split at h
    · exact absurd h (by simp)
    · split at h
      · exact absurd h (by simp)
      · rename_i h2
        simp only [Except.ok.injEq, Prod.mk.injEq] at h
        rw [← h.1, List.length_cons, slotsF_len s most n _ _ _ h2]
theorem readF_in {s : ByteArray} {lo hi : Nat} {l l1 : List Tk} {v : Nat} (h : readF s (inF lo hi) l = .ok (v, l1)) : lo ≤ v ∧ v ≤ hi := by
  unfold readF at h
  split at h
  · split at h
    · rename_i h2
      simp only [Except.ok.injEq, Prod.mk.injEq] at h
      unfold inF at h2
      split at h2
      · split at h2
        · rename_i h3
          simp only [Option.some.injEq] at h2
          rw [← h.1, ← h2]; exact h3
        · exact absurd h2 (by simp)
      · exact absurd h2 (by simp)
    · exact absurd h (by simp)
  · exact absurd h (by simp)
  · exact absurd h (by simp)
theorem pBits_inv {s : ByteArray} {m m' : Dm} {l : List Tk} (h : pBits s m l = .ok m') : m'.bl = m.bl ∧ m'.slots = m.slots := by
  obtain ⟨_, _, _, h⟩ := thenE_ok h
  obtain ⟨_, _, _, h⟩ := thenE_ok h
  rw [pEnd_inv h]; exact ⟨rfl, rfl⟩
theorem pSlots_inv {s : ByteArray} {m m' : Dm} {l : List Tk} (h : pSlots s m l = .ok m') : m'.bl = m.bl ∧ m'.slots.length = m.sl := by
  obtain ⟨_, _, _, h⟩ := thenE_ok h
  obtain ⟨vs, _, h1, h⟩ := thenE_ok h
  obtain ⟨_, _, _, h⟩ := thenE_ok h
  obtain ⟨e1, e2⟩ := pBits_inv h
  exact ⟨e1, by rw [e2]; exact slotsF_len s _ _ _ _ _ h1⟩
theorem pMark_inv {s : ByteArray} {m m' : Dm} {l : List Tk} (h : pMark s m l = .ok m') : m'.bl = m.bl ∧ m'.slots.length = m.sl := by
  obtain ⟨_, _, _, h⟩ := thenE_ok h
  obtain ⟨_, _, _, h⟩ := thenE_ok h
  obtain ⟨_, _, _, h⟩ := thenE_ok h
  have h9 := pSlots_inv h
  exact h9
theorem pFlags_inv {s : ByteArray} {m m' : Dm} {l : List Tk} (h : pFlags s m l = .ok m') : m'.bl = m.bl ∧ m'.slots.length = m.sl := by
  obtain ⟨_, _, _, h⟩ := thenE_ok h
  obtain ⟨_, _, _, h⟩ := thenE_ok h
  have h9 := pMark_inv h
  exact h9
theorem pGens_inv {s : ByteArray} {m m' : Dm} {l : List Tk} (h : pGens s m l = .ok m') : m'.bl = m.bl ∧ m'.slots.length = m.sl := by
  obtain ⟨_, _, _, h⟩ := thenE_ok h
  obtain ⟨_, _, _, h⟩ := thenE_ok h
  obtain ⟨_, _, _, h⟩ := thenE_ok h
  obtain ⟨_, _, _, h⟩ := thenE_ok h
  obtain ⟨_, _, _, h⟩ := thenE_ok h
  obtain ⟨_, _, _, h⟩ := thenE_ok h
  have h9 := pFlags_inv h
  exact h9
theorem pDevice_inv {s : ByteArray} {m m' : Dm} {l : List Tk} (h : pDevice s m l = .ok m') : m'.bl ≤ 4096 ∧ m'.slots.length ≤ 16 := by
  obtain ⟨_, _, _, h⟩ := thenE_ok h
  obtain ⟨bl, _, h1, h⟩ := thenE_ok h
  obtain ⟨_, _, _, h⟩ := thenE_ok h
  obtain ⟨sl, _, h2, h⟩ := thenE_ok h
  obtain ⟨_, _, _, h⟩ := thenE_ok h
  obtain ⟨e1, e2⟩ := pGens_inv h
  exact ⟨by rw [e1]; exact (readF_in h1).2, by rw [e2]; exact (readF_in h2).2⟩
theorem parseD_short {s : ByteArray} {m : Dm} (h : parseD s = .ok m) : m.bl ≤ 4096 ∧ m.slots.length ≤ 16 := by
  obtain ⟨_, _, _, h⟩ := thenE_ok h
  obtain ⟨_, _, _, h⟩ := thenE_ok h
  obtain ⟨_, _, _, h⟩ := thenE_ok h
  obtain ⟨_, _, _, h⟩ := thenE_ok h
  obtain ⟨_, _, _, h⟩ := thenE_ok h
  obtain ⟨_, _, _, h⟩ := thenE_ok h
  have h9 := pDevice_inv h
  exact h9
def Dm.nw (m : Dm) : Nat := (m.bl + 63) / 64
def Dm.wl (m : Dm) : List Int := (List.range m.nw).map fun k => ((wd m.bits m.bl k : Nat) : Int)
theorem Dm.wl_len (m : Dm) : m.wl.length = m.nw := by simp [Dm.wl]
/-- The dump's two lists, from the block B on. -/
def DumpIn (B : Nat) (w : World) (D : Dm) (vb vs : Value) : Prop := w.ownsRow B 22 1 vb D.nw (D.wl.map (Value.int .u64)) ∧ w.ownsRow B 3 1 vs D.slots.length (D.slots.map (Value.int .i64))
def outP (s : ByteArray) : Dm × Nat × Nat := if 65536 < s.size then (dm0, 0, 6) else match parseD s with
  | .error p => (dm0, p, 191)
  | .ok m => (m, 0, 0)
theorem outP_short (s : ByteArray) : (outP s).1.bl ≤ 4096 ∧ (outP s).1.slots.length ≤ 16 := by
  unfold outP
  split
  · exact ⟨Nat.zero_le _, Nat.zero_le _⟩
  · split
    · exact ⟨Nat.zero_le _, Nat.zero_le _⟩
    · rename_i h; exact parseD_short h
def ParR (w : World) (s : ByteArray) (e : Ending) (w' : World) : Prop :=
  Below w.heap.size w w' ∧ ∃ vb vs, e = .returned (.tuple #[.agg ((outP s).1.arr vb vs), .int .i64 ((outP s).2.1 : Nat), .int .i64 ((outP s).2.2 : Nat)]) ∧ DumpIn w.heap.size w' (outP s).1 vb vs
theorem words_own {B : Nat} {w : World} {v : Value} {D : Dm} (h : WordsIn B w v D.bl D.bits) (hb : D.bl ≤ 4096) : w.ownsRow B 22 1 v D.nw (D.wl.map (Value.int .u64)) := by
  obtain ⟨g, rfl, hg, cur, hbk, hsz, hc⟩ := h
  refine ⟨by rw [List.length_map, D.wl_len, Nat.mul_one], .inr ⟨g, D.nw, cur, rfl, hg, hbk, Nat.le_refl _, by unfold Dm.nw maxLen; omega, by rw [hsz, Nat.mul_one]; rfl, ?_⟩⟩
  refine List.ext_getElem (by rw [List.length_take, Array.length_toList, hsz, List.length_map, D.wl_len]; unfold Dm.nw; omega) (fun i h1 h2 => ?_)
  rw [List.length_map, D.wl_len] at h2
  have h9 := hc i h2
  obtain ⟨h10, h11⟩ := Array.getElem?_eq_some_iff.1 h9
  simp only [List.getElem_take, Array.getElem_toList, List.getElem_map]
  rw [h11]
  simp [Dm.wl]
theorem zDump_eq : zDump = dm0.arr (.slice none 0 0) (.slice none 0 0) := rfl
theorem dm0_in (B : Nat) (w : World) : DumpIn B w dm0 (.slice none 0 0) (.slice none 0 0) := ⟨⟨rfl, .inl ⟨rfl, rfl⟩⟩, ⟨rfl, .inl ⟨rfl, rfl⟩⟩⟩
theorem parR_of {w : World} {s : ByteArray} {e : Ending} {w' : World} (h : ParseQ w s e w') : ParR w s e w' := by
  obtain ⟨hb, h⟩ := h
  refine ⟨hb, ?_⟩
  unfold outP
  by_cases hs : 65536 < s.size
  · rw [if_pos hs] at h ⊢
    exact ⟨_, _, by rw [h, zDump_eq]; rfl, dm0_in _ _⟩
  · rw [if_neg hs] at h ⊢
    cases hp : parseD s with
    | error p =>
      rw [hp] at h
      exact ⟨_, _, by rw [show e = _ from h, zDump_eq]; rfl, dm0_in _ _⟩
    | ok m =>
      rw [hp] at h
      obtain ⟨vb, vs, he, h1, h2⟩ := h
      exact ⟨vb, vs, he, words_own h1 (parseD_short hp).1, h2⟩
theorem parseP_ok (w : World) (s : ByteArray) (hsz : s.size ≤ 9223372036854775807) (ht : FlagTab w) : Calls Tryd.prog 9 #[.string s] w (ParR w s) := (parse_ok w s hsz ht).mono fun _ _ h => parR_of h
theorem parseR_ok (w : World) (s : ByteArray) (hsz : s.size ≤ 9223372036854775807) : Calls Tryd.prog 8 #[.string s] w (ParR w s) := (rparse_ok w s hsz).mono fun _ _ h => parR_of h.1
theorem own_rd {k : IntKind} {t : TypeId} {B : Nat} {w : World} {v : Value} {n : Nat} {xs : List Int} (hn : n = xs.length) (h : w.ownsRow B t 1 v n (xs.map (Value.int k))) : Rd k w v xs := by
  subst hn
  rcases h.2 with ⟨rfl, h0⟩ | ⟨g, cap, cur, rfl, h1, h2, h3, h4, h5, h6⟩
  · exact .inl ⟨List.eq_nil_of_length_eq_zero h0, none, 0, rfl⟩
  · by_cases hz : xs.length = 0
    · exact .inl ⟨List.eq_nil_of_length_eq_zero hz, _, cap, by rw [hz]⟩
    · have hbk : Blk w g t cur := h2
      refine .inr ⟨g, 0, cap, rfl, by omega, h3, hbk.lt, fun i hi => ?_⟩
      have h7 : (xs.map (Value.int k))[i]? = some (.int k (xs.getD i 0)) := by
        rw [List.getElem?_map, List.getElem?_eq_getElem hi, List.getD_eq_getElem?_getD, List.getElem?_eq_getElem hi]; rfl
      rw [← h6, List.getElem?_take, if_pos (by omega), Array.getElem?_toList] at h7
      rw [Nat.zero_add, hbk.cell]
      exact h7
theorem DumpIn.rdb {B : Nat} {w : World} {D : Dm} {vb vs : Value} (h : DumpIn B w D vb vs) : Rd .u64 w vb D.wl := own_rd D.wl_len.symm h.1
theorem DumpIn.rds {B : Nat} {w : World} {D : Dm} {vb vs : Value} (h : DumpIn B w D vb vs) : Rd .i64 w vs D.slots := own_rd rfl h.2
/-- The dump outlives what leaves its blocks alone. -/
theorem DumpIn.keep {B : Nat} {w w1 : World} {D : Dm} {vb vs : Value} (h : DumpIn B w D vb vs) (hb : ∀ g, vb.ownBlock = some g → w1.heap[g]? = w.heap[g]?) (hs : ∀ g, vs.ownBlock = some g → w1.heap[g]? = w.heap[g]?) : DumpIn B w1 D vb vs := ⟨own_keep2 h.1 hb, own_keep2 h.2 hs⟩
theorem DumpIn.below {B C : Nat} {w w1 : World} {D : Dm} {vb vs : Value} (h : DumpIn B w D vb vs) (hb : Below C w w1) (hC : w.heap.size ≤ C) : DumpIn B w1 D vb vs :=
  h.keep (fun g hg => hb.block g (by have := (h.1.lt g hg).2; omega)) (fun g hg => hb.block g (by have := (h.2.lt g hg).2; omega))
/-- One cell more, and what the row held it holds still, wherever it lies. -/
theorem run_app_keep {P : Program} (w : World) (base : Nat) (t ty e : TypeId) (i : TypeInfo) (z : Value) (bytes : Nat) (ht : P.underlying t = some (.slice e)) (hi : P.info? e = some i) (hz : i.zero = some z)
    (hsize : i.size = 1) (hby : i.bytes = bytes) (hzs : z.cells.size = 1) (v : Value) (n : Nat) (xs : List Value) (hown : w.ownsRow base e 1 v n xs)
    (a : Addr) (c : Nat) (u : Value) (hnews : ∀ j x, [u][j]? = some x → w.cell? (a.add j) = some x) (h1 : u.oneCell' = true)
    (h63 : n + 1 ≤ maxLen) (hbytes : (n + 1) * bytes ≤ 140737488355328) (hbase : base ≤ w.heap.size) :
    ∃ v' w', (Builtin.append_ #[t, t] ty #[v, .slice (some a) 1 c]).run P w = .ok v' w' ∧ w'.ownsRow base e 1 v' (n + 1) (xs ++ [u]) ∧ w.grownBy w' v.ownBlock ∧
      (v'.ownBlock = v.ownBlock ∨ v'.ownBlock = some w.heap.size) ∧ (∀ g, v.ownBlock = some g → v'.ownBlock = some g ∨ w'.heap[g]? = w.heap[g]?) := by
  have h1' : ∀ x ∈ [u], x.oneCell' = true := fun x hx => by rw [List.mem_singleton.1 hx]; exact h1
  obtain ⟨v', w', hr, h2, h3, _, h5⟩ := run_append_own_at (P := P) w base t ty e i z 1 bytes ht hi hz hsize hby hzs (by decide) v n xs hown a 1 c [u] rfl hnews h1' h63 hbytes hbase
  refine ⟨v', w', hr, h2, h3, h5, fun g hg => ?_⟩
  have hxl := hown.1
  rcases hown.2 with ⟨rfl, rfl⟩ | ⟨g', cap, cur, rfl, hbg, hgg, hnc, hcm, hcs, htake⟩
  · simp [Value.ownBlock] at hg
  · simp only [Value.ownBlock, Option.some.injEq] at hg
    subst hg
    by_cases hroom : n + 1 ≤ cap
    · have hr2 := run_append_room (P := P) w t ty e i ht hi g' n cap cur hgg a 1 c [u] (by rw [hsize]; rfl) hnews h1' hroom (by rw [hsize, hcs]; simp; omega)
      rw [hr2] at hr
      simp only [Result.ok.injEq] at hr
      rw [← hr.1]
      exact .inl rfl
    · have holds : ∀ j u, xs[j]? = some u → w.cell? ((⟨g', 0, none⟩ : Addr).add j) = some u := hown.cells (g := g') rfl
      have hr2 := run_append_grow (P := P) w t ty e i z ht hi hz ⟨g', 0, none⟩ n cap xs (by rw [hsize]; exact hown.1) holds a 1 c [u] (by rw [hsize]; rfl) hnews (by omega) (by simp only [maxLen] at h63; omega) (by rw [hby]; exact growslice_fits (by omega) hbytes)
      rw [hr2] at hr
      simp only [Result.ok.injEq] at hr
      rw [← hr.2]
      exact .inr (Below.heap_alloc w.drew _ g' (Array.getElem?_eq_some_iff.1 hgg).1)
theorem app1k {P : Program} {ops : Array Oper} {rest : List Oper} {o : Oper} {a : Act} {Q : Exit → Act → World → Prop} {W : World} (hgd : o.guard = none) (s x : Operand) (t : TypeId)
    (ho : o.op = .call { callee := .builtin .append, args := #[s, x], argTypes := #[t, t] }) (B : Nat) (e : TypeId) (z : Value) (bytes : Nat) (ht : P.underlying t = some (.slice e))
    (hinfo : (P.info? e).map (fun i => (i.zero, i.size, i.bytes)) = some (some z, 1, bytes)) (hz : z.cells.size = 1) (v : Value) (n : Nat) (xs : List Value) (hs : a.eval s = v) (hown : W.ownsRow B e 1 v n xs)
    (u0 : Value) (c : Nat) (hx : a.eval x = .slice (some ⟨W.heap.size, 0, none⟩) 1 c) (hu0 : u0.oneCell' = true) (hn : n + 1 ≤ maxLen) (hb : (n + 1) * bytes ≤ 140737488355328) (hB : B ≤ W.heap.size)
    (h : ∀ v' w', w'.ownsRow B e 1 v' (n + 1) (xs ++ [u0]) → W.grownBy w' v.ownBlock → (∀ g, v'.ownBlock = some g → v.ownBlock = some g ∨ W.heap.size ≤ g) → (∀ g, v.ownBlock = some g → v'.ownBlock = some g ∨ w'.heap[g]? = W.heap[g]?) →
      wpList P ops Q rest (a.put o.dst v') w') : wpList P ops Q (o :: rest) a (W.alloc (.cells #[u0] e)) := by
  obtain ⟨i, hi, hzz⟩ := Option.map_eq_some_iff.1 hinfo
  simp only [Prod.mk.injEq] at hzz
  obtain ⟨h0, h1, h2⟩ := hzz
  refine wpList_plain hgd fun K hK => ?_
  obtain ⟨v', w', hr, k2, k3, k4, k5⟩ := run_app_keep (P := P) (W.alloc (.cells #[u0] e)) B t o.type e i z bytes ht hi h0 h1 h2 hz v n xs (hown.alloc _) ⟨W.heap.size, 0, none⟩ c u0 (World.news_of_block (cs := #[u0]) (t := e) (fr := (0, 0)) (Blk.new W e #[u0])) hu0 hn hb (by rw [size_alloc]; omega)
  unfold Oper.wp execOp
  simp only [ho, resolve, invoke, builtin, Sem.run_bind, Sem.run_pure, Result.andThen_ok, List.map_toArray, List.map_cons, List.map_nil, hs, hx, hr]
  refine hK _ _ (h v' w' k2 (grown_alloc k3 (fun e1 => by have := (hown.lt W.heap.size e1).2; omega)) (fun g hg => ?_) (fun g hg => ?_))
  · rcases k4 with k4 | k4
    · exact .inl (by rw [← k4]; exact hg)
    · rw [k4] at hg
      rw [size_alloc] at hg
      simp only [Option.some.injEq] at hg
      exact .inr (by omega)
  · rcases k5 g hg with k5 | k5
    · exact .inl k5
    · exact .inr (k5.trans (Below.heap_alloc W _ g (hown.lt g hg).2))
end Go.Proofs.YtbfebfeliddpnaaDoor
