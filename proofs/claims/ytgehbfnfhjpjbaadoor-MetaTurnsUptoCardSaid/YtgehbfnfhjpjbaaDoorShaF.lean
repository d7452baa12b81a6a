/- Write of a hash. -/
import Derived.Test.YtgehbfnfhjpjbaaDoorShaE
namespace Go.Proofs.YtgehbfnfhjpjbaaDoor
open Go.RowKit
set_option linter.unusedVariables false
set_option linter.unusedSimpArgs false
theorem hd_size5 : (Tryd.prog.info? 5).map (·.size) = some 1 := by kernel_rfl
theorem cell_of_heap {w w' : World} {b : Nat} (h : w.heap[b]? = w'.heap[b]?) (o : Nat) : w.cell? ⟨b, o, none⟩ = w'.cell? ⟨b, o, none⟩ := by simp [World.cell?, h]
theorem range_below {wx w' : World} {g o : Nat} {cs : List Value} (hb : Below wx.heap.size wx w') (h : wx.rangeAt g o cs) : w'.rangeAt g o cs := fun j v hj => by
  have h1 := h j v hj
  rw [hb.cell (p := ⟨g, o + j, none⟩) (World.block_lt_of_cell? wx _ h1)]
  exact h1
theorem range_setCell {w : World} {g o : Nat} {cs : List Value} (h : w.rangeAt g o cs) (q : Nat) (hq : q < o) (v : Value) : (w.setCell ⟨g, q, none⟩ v).rangeAt g o cs := fun j u hj => by
  rw [World.cell?_setCell_other _ _ _ _ (by intro e; injection e with e1 e2; omega)]
  exact h j u hj
theorem step_load_mid {P : Program} {ops : Array Oper} {op : Oper} {a : Act} {w : World} {K : Act → World → Prop} {Q : Exit → Act → World → Prop} {E : Prop} (hgd : op.guard = none) (ty : TypeId) (x : Operand) (ho : op.op = .load ty x)
    (b o : Nat) (hx : a.eval x = .pointer (some ⟨b, o, none⟩)) (cs : List Value) (d : TypeDesc) (hc : w.rangeAt b o cs)
    (hu : P.underlying ty = some d) (hd : d.isRow = true) (hi : (P.info? ty).map (·.size) = some cs.length)
    (h : K (a.put op.dst (.agg cs.toArray)) w) : if Region.wanted op (yielded ops a.tmps) = true then Oper.wp P op a w K Q else E := by
  have hw : Region.wanted op (yielded ops a.tmps) = true := by simp [Region.wanted, hgd]
  rw [if_pos hw]
  exact wp_load_mid ty x ho b o hx cs d hc hu hd hi h
theorem wpAny_two {P : Program} {md : Region.Mode} {ops : Array Oper} {Q : Exit → Act → World → Prop} {i j : Nat} {oi oj : Oper} {vi vj : Value} {fuel : Nat} {listed : Array Bool} {a : Act} {w : World}
    (hr : Region.ready md ops listed = [i, j]) (hij : Region.ready md ops (listed.setIfInBounds i true) = [j]) (hji : Region.ready md ops (listed.setIfInBounds j true) = [i])
    (hi : ops[i]? = some oi) (hj : ops[j]? = some oj) {di dj : Tmp} (hdi : oi.dst = some di) (hdj : oj.dst = some dj) (hne : di ≠ dj)
    (h1 : ∀ K : Act → World → Prop, K (a.put oi.dst vi) w → if Region.wanted oi (yielded ops a.tmps) = true then Oper.wp P oi a w K Q else K (a.put oi.dst undef) w)
    (h2 : ∀ K : Act → World → Prop, K ((a.put oi.dst vi).put oj.dst vj) w → if Region.wanted oj (yielded ops (a.put oi.dst vi).tmps) = true then Oper.wp P oj (a.put oi.dst vi) w K Q else K ((a.put oi.dst vi).put oj.dst undef) w)
    (h3 : ∀ K : Act → World → Prop, K (a.put oj.dst vj) w → if Region.wanted oj (yielded ops a.tmps) = true then Oper.wp P oj a w K Q else K (a.put oj.dst undef) w)
    (h4 : ∀ K : Act → World → Prop, K ((a.put oj.dst vj).put oi.dst vi) w → if Region.wanted oi (yielded ops (a.put oj.dst vj).tmps) = true then Oper.wp P oi (a.put oj.dst vj) w K Q else K ((a.put oj.dst vj).put oi.dst undef) w)
    (h : wpAny P md ops Q fuel ((listed.setIfInBounds i true).setIfInBounds j true) ((a.put oi.dst vi).put oj.dst vj) w) : wpAny P md ops Q (fuel + 2) listed a w := by
  by_cases e : i = j
  · subst e; rw [hi] at hj; injection hj with hj; subst hj; rw [hdi] at hdj; injection hdj with hdj; exact absurd hdj hne
  refine wpAny_ready hr (by simp) (AllReady.cons hi (fun K hK => h1 K (hK _ _ ?_)) (AllReady.cons hj (fun K hK => h3 K (hK _ _ ?_)) AllReady.nil))
  · exact wpAny_ready hij (by simp) (AllReady.cons hj (fun K hK => h2 K (hK _ _ h)) AllReady.nil)
  · refine wpAny_ready hji (by simp) (AllReady.cons hi (fun K hK => h4 K (hK _ _ ?_)) AllReady.nil)
    rw [Act.put_comm a vj vi (by intro d e1 e2; rw [hdj] at e1; rw [hdi] at e2; injection e1 with e1; injection e2 with e2; exact hne (e2.trans e1.symm)), Array.setIfInBounds_comm _ _ (Ne.symm e)]
    exact h
/-- A call of a function by name, as one step of a drawn region. -/
theorem step_call {P : Program} {ops : Array Oper} {o : Oper} {a : Act} {w : World} {K : Act → World → Prop} {Q : Exit → Act → World → Prop} {E : Prop} (hgd : o.guard = none) (c : Call) (x : Operand) (ho : o.op = .call c) (hc : c.callee = .value x) (f : FuncId) (hx : x = .func f)
    {fn : Func} (hf : P.funcs[f]? = some fn) (hname : (fn.name == "runtime.NumGoroutine") = false) (hb : fn.body.isNone = false)
    (args : Array Value) (ha : c.args.map a.eval = args) (h : Calls P f args w (fun e w' => match e with | .returned v => K (a.put o.dst v) w' | _ => False)) :
    if Region.wanted o (yielded ops a.tmps) = true then Oper.wp P o a w K Q else E := by
  have hw : Region.wanted o (yielded ops a.tmps) = true := by simp [Region.wanted, hgd]
  have h1 : fn.name ≠ "runtime.NumGoroutine" := by simpa using hname
  have h2 : fn.body ≠ none := by intro e; rw [e] at hb; cases hb
  have hrun : (callFunc f args).run P w = .ok (.enter f args) w := by simp [callFunc, hf, h1, h2]
  rw [if_pos hw]
  subst hx
  unfold Oper.wp
  simp [execOp, ho, resolve, hc, ha, go_sem, Act.eval, hrun]
  refine h.mono fun e w' he => ?_
  cases e with
  | returned v => exact he
  | panicked c => exact he.elim
  | outgrown => exact he.elim
theorem step_store_mid {P : Program} {ops : Array Oper} {op : Oper} {a : Act} {w : World} {K : Act → World → Prop} {Q : Exit → Act → World → Prop} {E : Prop} (hgd : op.guard = none) (ty : TypeId) (x y : Operand) (ho : op.op = .store ty x y)
    (b o : Nat) (cells : Array Value) (hx : a.eval x = .pointer (some ⟨b, o, none⟩)) (hy : a.eval y = .agg cells)
    (ht : w.there b o cells.size) (hi : (P.info? ty).map (·.size) = some cells.size) (h1 : cells.all (·.oneCell') = true)
    (h : K (a.put op.dst undef) (w.setCells b o cells.toList)) : if Region.wanted op (yielded ops a.tmps) = true then Oper.wp P op a w K Q else E := by
  have hw : Region.wanted op (yielded ops a.tmps) = true := by simp [Region.wanted, hgd]
  rw [if_pos hw]
  exact wp_store_mid ty x y ho b o cells hx hy ht hi h1 h
theorem Blk.there {w : World} {g : Nat} {t : TypeId} {cs : List Value} (h : Blk w g t cs.toArray) (o n : Nat) (hn : o + n ≤ cs.length) : w.there g o n := fun j hj => ⟨by rw [h.cell]; simp; omega, h.free _⟩
theorem splice_consV (l : List Value) (o : Nat) (v : Value) (r : List Value) (h : o < l.length) : splice (l.set o v) (o + 1) r = splice l o (v :: r) := by
  have e : (l.set o v).take (o + 1) = l.take o ++ [v] := by
    rw [List.take_add_one, List.take_set_of_le (Nat.le_refl _)]
    simp [h]
  have e2 : (l.set o v).drop (o + 1 + r.length) = l.drop (o + (r.length + 1)) := by
    rw [List.drop_set_of_lt (by omega), show o + 1 + r.length = o + (r.length + 1) by omega]
  unfold splice
  rw [e, e2]
  simp
theorem Blk.cells {g : Nat} {t : TypeId} : ∀ {w : World} {cs : List Value} (h : Blk w g t cs.toArray) (vs : List Value) (o : Nat) (hn : o + vs.length ≤ cs.length), Blk (w.setCells g o vs) g t (splice cs o vs).toArray
  | w, cs, h, [], o, hn => by simpa [splice, World.setCells] using h
  | w, cs, h, v :: r, o, hn => by
    rw [← splice_consV _ _ _ _ (by simp at hn; omega)]
    exact Blk.cells (h.setL o v) r (o + 1) (by simp at hn ⊢; omega)
theorem below_setCells {B : Nat} {W : World} {g : Nat} (hg : B ≤ g) : ∀ {w : World} (h : Below B W w) (vs : List Value) (o : Nat), Below B W (w.setCells g o vs)
  | w, h, [], o => h
  | w, h, v :: r, o => below_setCells hg (h.setCell (p := ⟨g, o, none⟩) hg v) r (o + 1)
theorem tail_one {n k m c c1 o1 off b l : Nat} (em : m = n - k) (ec : c1 = c - k) (eo : o1 = off + k) (hcx : c1 = l → m = l) (hcc : c1 = l) (hk : k + l ≤ n) :
    (k + l < n ∧ Value.slice (some ⟨b, o1, none⟩) 0 0 = .slice (some ⟨b, off + (k + l), none⟩) (n - (k + l)) (c - (k + l))) ∨ (k + l = n ∧ ∃ A c', Value.slice (some ⟨b, o1, none⟩) 0 0 = .slice A 0 c') :=
  .inr ⟨by have := hcx hcc; omega, _, _, rfl⟩
theorem tail_two {n k m c c1 o1 off b l : Nat} (em : m = n - k) (ec : c1 = c - k) (eo : o1 = off + k) (hk : k + l ≤ n) :
    (k + l < n ∧ Value.slice (some ⟨b, o1 + l, none⟩) (m - l) (c1 - l) = .slice (some ⟨b, off + (k + l), none⟩) (n - (k + l)) (c - (k + l))) ∨ (k + l = n ∧ ∃ A c', Value.slice (some ⟨b, o1 + l, none⟩) (m - l) (c1 - l) = .slice A 0 c') := by
  subst em ec eo
  by_cases e : k + l = n
  · exact .inr ⟨e, some ⟨b, off + k + l, none⟩, _, by rw [show n - k - l = 0 by omega]⟩
  · exact .inl ⟨by omega, by rw [Nat.add_assoc, Nat.sub_sub, Nat.sub_sub]⟩
/-- What stays over the call of mix. -/
def SW (K : Nat → Int) (g : Nat) (st1 : St) (pl : List Value) (w' : World) : Prop := w'.cell? ⟨g, 0, none⟩ = some (.int .u32 st1.a) ∧ w'.cell? ⟨g, 1, none⟩ = some (.int .u32 st1.b) ∧ w'.cell? ⟨g, 2, none⟩ = some (.int .u32 st1.c) ∧ w'.cell? ⟨g, 3, none⟩ = some (.int .u32 st1.d) ∧ w'.cell? ⟨g, 4, none⟩ = some (.int .u32 st1.e) ∧ w'.cell? ⟨g, 5, none⟩ = some (.int .u32 st1.f) ∧ w'.cell? ⟨g, 6, none⟩ = some (.int .u32 st1.g) ∧ w'.cell? ⟨g, 7, none⟩ = some (.int .u32 st1.h) ∧ w'.frozen? ⟨g, 0, none⟩ = false ∧ w'.frozen? ⟨g, 1, none⟩ = false ∧ w'.frozen? ⟨g, 2, none⟩ = false ∧ w'.frozen? ⟨g, 3, none⟩ = false ∧ w'.frozen? ⟨g, 4, none⟩ = false ∧ w'.frozen? ⟨g, 5, none⟩ = false ∧ w'.frozen? ⟨g, 6, none⟩ = false ∧ w'.frozen? ⟨g, 7, none⟩ = false ∧ w'.rangeAt g 8 pl
theorem keepS {K : Nat → Int} {g : Nat} {st1 : St} {pl : List Value} {wx w' : World} (hb : Below wx.heap.size wx w') (h : SW K g st1 pl wx) : SW K g st1 pl w' := by
  obtain ⟨h0, h1, h2, h3, h4, h5, h6, h7, f0, f1, f2, f3, f4, f5, f6, f7, hr⟩ := h
  have hl := World.block_lt_of_cell? wx _ h0
  have hc : ∀ o, w'.cell? ⟨g, o, none⟩ = wx.cell? ⟨g, o, none⟩ := fun o => hb.cell (p := ⟨g, o, none⟩) hl
  have hf : ∀ o, w'.frozen? ⟨g, o, none⟩ = wx.frozen? ⟨g, o, none⟩ := fun o => hb.frozen (p := ⟨g, o, none⟩) hl
  exact ⟨(hc _).trans h0, (hc _).trans h1, (hc _).trans h2, (hc _).trans h3, (hc _).trans h4, (hc _).trans h5, (hc _).trans h6, (hc _).trans h7, (hf _).trans f0, (hf _).trans f1, (hf _).trans f2, (hf _).trans f3, (hf _).trans f4, (hf _).trans f5, (hf _).trans f6, (hf _).trans f7, fun j v hj => (hc _).trans (hr j v hj)⟩
/-- A copy as one step of a drawn region, the world behind it said outright. -/
theorem step_copy_exact {P : Program} {ops : Array Oper} {o : Oper} {a : Act} {w : World} {K : Act → World → Prop} {Q : Exit → Act → World → Prop} {E : Prop} (hgd : o.guard = none) (d s : Operand) (dT sT : TypeId)
    (ho : o.op = .call { callee := .builtin .copy, args := #[d, s], argTypes := #[dT, sT] }) (elem : TypeId) (hu : P.underlying dT = some (.slice elem)) (hsz : (P.info? elem).map (·.size) = some 1)
    (g off : Nat) (ad : Addr) (dLen dCap sLen sCap : Nat) (hd : a.eval d = .slice (some ⟨g, off, none⟩) dLen dCap) (hs : a.eval s = .slice (some ad) sLen sCap)
    (cur : List Value) (t : TypeId) (hg : w.heap[g]? = some (.cells cur.toArray t (0, 0))) (cs : List Value) (hn : cs.length = Nat.min sLen dLen)
    (hsrc : ∀ j v, cs[j]? = some v → w.cell? (ad.add j) = some v) (hfit : off + cs.length ≤ cur.length) (h1 : ∀ v ∈ cs, v.oneCell' = true)
    (h : K (a.put o.dst (goInt cs.length)) (w.setRow g (splice cur off cs).toArray)) :
    if Region.wanted o (yielded ops a.tmps) = true then Oper.wp P o a w K Q else E := by
  have hw : Region.wanted o (yielded ops a.tmps) = true := by simp [Region.wanted, hgd]
  rw [if_pos hw]
  have hrun := run_copy_row (P := P) w dT sT o.type elem g off dLen dCap ad sLen sCap cur.toArray t cs hu hsz hg hn hsrc (by simpa using hfit) h1
  unfold Oper.wp
  simp [execOp, ho, resolve, invoke, builtin, hd, hs, hrun, Result.andThen]
  exact h
/-- The loop of Write. -/
def WrA (K : Nat → Int) (xs : List Int) (b off c g : Nat) (cnt : Int) (s0 : St × List Int × Nat) (w : World) (k : Nat) (st : St) (part : List Int) (held : Nat) (p : Value) (wr : World) : Prop :=
  k ≤ xs.length ∧ feed K s0 (xs.take k) = (st, part, held) ∧ part.length = 64 ∧ held < 64 ∧ Below g w wr ∧ Blk wr g 100 (hashL st part held cnt).toArray ∧ (∀ i, i < xs.length → wr.cell? ⟨b, off + i, none⟩ = some (.int .u8 (xs.getD i 0))) ∧ ((k < xs.length ∧ p = .slice (some ⟨b, off + k, none⟩) (xs.length - k) (c - k)) ∨ (k = xs.length ∧ ∃ A c', p = .slice A 0 c'))
set_option maxHeartbeats 6000000 in
set_option maxRecDepth 100000 in
theorem write_ok (K : Nat → Int) (g : Nat) (st : St) (part : List Int) (held : Nat) (cnt : Int) (xs : List Int) (b off c : Nat) (p : Value) (w : World) (hK : RowG .u32 w 1 64 K) (hg : 1 < g)
    (hb : Blk w g 100 (hashL st part held cnt).toArray) (hp : part.length = 64) (hh : held < 64) (hc : xs.length ≤ c) (hbg : b ≠ g) (hx : ∀ i, i < xs.length → w.cell? ⟨b, off + i, none⟩ = some (.int .u8 (xs.getD i 0)))
    (hv : (0 < xs.length ∧ p = .slice (some ⟨b, off, none⟩) xs.length c) ∨ (0 = xs.length ∧ ∃ A c', p = .slice A 0 c')) :
    Calls Tryd.prog 27 #[.pointer (some ⟨g, 0, none⟩), p] w fun e w' => e = .returned (.tuple #[]) ∧ Below g w w' ∧ Blk w' g 100 (hashL (feed K (st, part, held) xs).1 (feed K (st, part, held) xs).2.1 (feed K (st, part, held) xs).2.2 ((cnt + xs.length) % 18446744073709551616)).toArray := by
  obtain ⟨A0, c0, rfl⟩ : ∃ A0 c0, p = .slice A0 xs.length c0 := by
    rcases hv with ⟨h, rfl⟩ | ⟨h, A, c', rfl⟩
    · exact ⟨_, _, rfl⟩
    · exact ⟨A, c', by rw [← h]⟩
  have cc := (hb.cell 73)
  rw [List.getElem?_toArray, hashL_73 _ _ _ _ hp] at cc
  have fc := hb.free 73
  have HK := Lib.hid hK
  have Hb := Lib.hid hb
  have Hp := Lib.hid hp
  have Hx := Lib.hid hx
  have Hv := Lib.hid hv
  obtain ⟨n, en⟩ : ∃ n, n = xs.length := ⟨_, rfl⟩
  rw [← en]
  have En := Lib.hid en
  clear hK hb hp hx hv en
  go_enter Tryd.func27, Tryd.ntmps27
  go_wp2_with fail
  go_loopw [1, 4] (fun p _ wr => ∃ k st1 part1 held1, WrA K xs b off c g ((cnt + xs.length) % 18446744073709551616) (st, part, held) w k st1 part1 held1 p wr) (fun p _ _ => match p with | .slice _ n _ => n | _ => 0)
  case atStart =>
    refine ⟨0, st, part, held, Nat.zero_le _, rfl, Hp.out, hh, (Below.refl g w).setCell (p := ⟨g, 73, none⟩) (Nat.le_refl g) _, ?_, fun i hi => ?_, ?_⟩
    · have := Hb.out.setL 73 (.int .u64 (IntKind.u64.wrap (cnt + IntKind.u64.wrap ↑n)))
      rw [hashL_set73 _ _ _ _ _ Hp.out] at this
      have e : IntKind.u64.wrap (cnt + IntKind.u64.wrap ↑n) = (cnt + xs.length) % 18446744073709551616 := by
        rw [En.out]; simp [IntKind.wrap, IntKind.signed, IntKind.bits]
      rw [← e]
      exact this
    · rw [World.cell?_setCell_other _ _ _ _ (by intro h; injection h with h; exact hbg h.symm)]
      exact Hx.out i hi
    · rw [En.out]
      rcases Hv.out with ⟨h1, h2⟩ | ⟨h1, h2⟩
      · exact .inl ⟨h1, h2⟩
      · exact .inr ⟨h1, h2⟩
  case round =>
    obtain ⟨k, st1, part1, held1, hk, hf, hp1, hh1, hbl, hbk, hcells, hpv⟩ := hrel
    have HK1 := Lib.hid hk
    have Hf := Lib.hid hf
    have Hp1 := Lib.hid hp1
    have Hh1 := Lib.hid hh1
    have Hbl := Lib.hid hbl
    have Hbk := Lib.hid hbk
    have Hcells := Lib.hid hcells
    have c72 := hbk.cell 72
    rw [List.getElem?_toArray, hashL_72 _ _ _ _ hp1] at c72
    have f72 := hbk.free 72
    rcases hpv with ⟨hlt, rfl⟩ | ⟨hlt, A, c', rfl⟩
    · obtain ⟨m, em⟩ : ∃ m, m = xs.length - k := ⟨_, rfl⟩
      obtain ⟨c1, ec1⟩ : ∃ c1, c1 = c - k := ⟨_, rfl⟩
      obtain ⟨o1, eo1⟩ : ∃ o1, o1 = off + k := ⟨_, rfl⟩
      obtain ⟨cs, ecs⟩ : ∃ cs, cs = ((xs.drop k).take (64 - held1)).map (Value.int .u8) := ⟨_, rfl⟩
      have hlen : cs.length = Nat.min m (64 - held1) := by rw [ecs, em]; simp; exact Nat.min_comm _ _
      have hm0 : 0 < m := by omega
      have hmc : m ≤ c1 := by omega
      have hl0 : 0 < cs.length := by rw [hlen]; exact Nat.lt_min.2 ⟨hm0, by omega⟩
      have hl1 : cs.length ≤ m := by rw [hlen]; exact Nat.min_le_left _ _
      have hl2 : cs.length ≤ 64 - held1 := by rw [hlen]; exact Nat.min_le_right _ _
      rw [← em, ← ec1, ← eo1]
      have Em := Lib.hid em
      have Ec1 := Lib.hid ec1
      have Eo1 := Lib.hid eo1
      have Ecs := Lib.hid ecs
      have Hlen := Lib.hid hlen
      have hsrc : ∀ j v, cs[j]? = some v → wr.cell? ((⟨b, o1, none⟩ : Addr).add j) = some v := by
        intro j v hj
        have hjl : j < cs.length := (List.getElem?_eq_some_iff.1 hj).1
        rw [Addr.add_mid, eo1, Nat.add_assoc, hcells (k + j) (by omega)]
        rw [ecs, List.getElem?_map, List.getElem?_take, if_pos (by omega), List.getElem?_drop, List.getElem?_eq_getElem (by omega)] at hj
        simp only [Option.map_some, Option.some.injEq] at hj
        rw [← hj, List.getD_eq_getElem?_getD, List.getElem?_eq_getElem (by omega)]
        rfl
      have hfit : 8 + held1 + cs.length ≤ (hashL st1 part1 held1 ((cnt + xs.length) % 18446744073709551616)).length := by rw [hashL_length _ _ _ _ hp1]; omega
      have h1 : ∀ v ∈ cs, v.oneCell' = true := by
        rw [ecs]; intro v hv; obtain ⟨x, _, rfl⟩ := List.mem_map.1 hv; rfl
      have Hfit := Lib.hid hfit
      have H1 := Lib.hid h1
      have Hsrc := Lib.hid hsrc
      clear em ec1 eo1 ecs hlen hk hf hp1 hbl hbk hcells hsrc hfit h1
      go_wp2_with fail
      have i0 : (0 : Int) ≤ (held1 : Int) := Int.natCast_nonneg _
      have i1 : (held1 : Int) ≤ 64 := by omega
      have i2 : ¬ (64 = held1) := by omega
      go_region_law (refine step_copy_exact rfl (.tmp 25) (.tmp 26) 29 29 rfl 5 Tryd.underlying29 hd_size5 g (8 + held1) ⟨b, o1, none⟩ _ _ _ _ (by rfl) (by rfl) (hashL st1 part1 held1 ((cnt + xs.length) % 18446744073709551616)) 100 Hbk.out.out cs Hlen.out Hsrc.out Hfit.out H1.out ?_)
      obtain ⟨w2, ew2⟩ : ∃ w2, w2 = wr.drew.setRow g (splice (hashL st1 part1 held1 ((cnt + xs.length) % 18446744073709551616)) (8 + held1) cs).toArray := ⟨_, rfl⟩
      obtain ⟨part2, epart2⟩ : ∃ part2, part2 = splice part1 held1 ((xs.drop k).take (64 - held1)) := ⟨_, rfl⟩
      have hlc : ((xs.drop k).take (64 - held1)).length = cs.length := by rw [Ecs.out]; simp
      have hb2 : Blk w2 g 100 (hashL st1 part2 held1 ((cnt + xs.length) % 18446744073709551616)).toArray := by
        rw [ew2, Ecs.out, hashL_splice _ _ _ _ _ _ (by rw [hlc, Hp1.out]; omega), epart2]
        exact Blk.setRow (Blk.drewN Hbk.out 1) _
      have hp2 : part2.length = 64 := by rw [epart2, length_splice _ _ _ (by rw [hlc, Hp1.out]; omega)]; exact Hp1.out
      have hbl2 : Below g w w2 := by rw [ew2]; exact below_setRow Hbl.out.drew (Nat.le_refl _) _
      have hc2 : ∀ i, i < xs.length → w2.cell? ⟨b, off + i, none⟩ = some (.int .u8 (xs.getD i 0)) := fun i hi => by
        rw [ew2]
        rw [show (wr.drew.setRow g (splice (hashL st1 part1 held1 ((cnt + xs.length) % 18446744073709551616)) (8 + held1) cs).toArray).cell? ⟨b, off + i, none⟩ = wr.cell? ⟨b, off + i, none⟩ from cell_of_heap (heap_setRow _ _ _ _ hbg) _]
        exact Hcells.out i hi
      rw [← ew2]
      have d72 := hb2.cell 72
      rw [List.getElem?_toArray, hashL_72 _ _ _ _ hp2] at d72
      have g72 := hb2.free 72
      have Hb2 := Lib.hid hb2
      have Hp2 := Lib.hid hp2
      have Hbl2 := Lib.hid hbl2
      have Hc2 := Lib.hid hc2
      have Hlc := Lib.hid hlc
      have Epart2 := Lib.hid epart2
      have j0 : (0 : Int) ≤ (cs.length : Int) := Int.natCast_nonneg _
      have j1 : (cs.length : Int) ≤ (m : Int) := by omega
      clear ew2 hb2 hp2 hbl2 hc2 hlc epart2 c72 f72
      have hpn : k + cs.length ≤ xs.length := by rw [Em.out] at hl1; omega
      have hall : ∀ q, feed K (st1, part1, held1) ((xs.drop k).take (64 - held1)) = q → feed K (st, part, held) (xs.take (k + cs.length)) = q := by
        intro q hq
        have e : xs.take (k + cs.length) = xs.take k ++ (xs.drop k).take (64 - held1) := by
          rw [List.take_add]
          congr 1
          have hl3 : cs.length = min m (64 - held1) := Hlen.out
          have hem := Em.out
          rcases Nat.le_total m (64 - held1) with hq2 | hq2
          · rw [List.take_of_length_le (by simp; omega), List.take_of_length_le (by simp; omega)]
          · rw [show cs.length = 64 - held1 by omega]
        rw [e, feed_append, Hf.out, hq]
      have Hall := Lib.hid hall
      have hcx : c1 = cs.length → m = cs.length := fun e => by omega
      clear hall
      rcases Classical.em (c1 = cs.length) with hcc | hcc
      all_goals (
        by_cases h64 : held1 + cs.length = 64
        · have t64 : (((held1 : Int) + (cs.length : Int)) == 64) = true := by rw [beq_iff_eq]; omega
          go_wp2_with fail
          obtain ⟨w3, ew3⟩ : ∃ w3, w3 = w2.setCell ⟨g, 72, none⟩ (.int .i64 (held1 + cs.length)) := ⟨_, rfl⟩
          rw [← ew3]
          have hb3 : Blk w3 g 100 (hashL st1 part2 (held1 + cs.length) ((cnt + xs.length) % 18446744073709551616)).toArray := by
            have := Hb2.out.setL 72 (.int .i64 (held1 + cs.length))
            rw [hashL_set72 _ _ _ _ _ Hp2.out] at this
            rw [ew3]; exact this
          have hbl3 : Below g w w3 := by rw [ew3]; exact Hbl2.out.setCell (p := ⟨g, 72, none⟩) (Nat.le_refl g) _
          have hc3 : ∀ i, i < xs.length → w3.cell? ⟨b, off + i, none⟩ = some (.int .u8 (xs.getD i 0)) := fun i hi => by
            rw [ew3, World.cell?_setCell_other _ _ _ _ (by intro h; injection h with h; exact hbg h.symm)]
            exact Hc2.out i hi
          obtain ⟨pl, epl⟩ : ∃ pl, pl = part2.map (Value.int .u8) := ⟨_, rfl⟩
          have r2 : w3.rangeAt g 8 pl := fun j v hj => by
            have hjl : j < pl.length := (List.getElem?_eq_some_iff.1 hj).1
            rw [hb3.cell, List.getElem?_toArray, hashL, List.getElem?_append_left (by rw [List.length_append, ← epl]; simp [St.list]; omega), List.getElem?_append_right (by simp [St.list]), ← epl]
            simpa [St.list] using hj
          have q0 : w3.cell? ⟨g, 0, none⟩ = some (.int .u32 st1.a) := by rw [hb3.cell]; rfl
          have v0 := hb3.free 0
          have q1 : w3.cell? ⟨g, 1, none⟩ = some (.int .u32 st1.b) := by rw [hb3.cell]; rfl
          have v1 := hb3.free 1
          have q2 : w3.cell? ⟨g, 2, none⟩ = some (.int .u32 st1.c) := by rw [hb3.cell]; rfl
          have v2 := hb3.free 2
          have q3 : w3.cell? ⟨g, 3, none⟩ = some (.int .u32 st1.d) := by rw [hb3.cell]; rfl
          have v3 := hb3.free 3
          have q4 : w3.cell? ⟨g, 4, none⟩ = some (.int .u32 st1.e) := by rw [hb3.cell]; rfl
          have v4 := hb3.free 4
          have q5 : w3.cell? ⟨g, 5, none⟩ = some (.int .u32 st1.f) := by rw [hb3.cell]; rfl
          have v5 := hb3.free 5
          have q6 : w3.cell? ⟨g, 6, none⟩ = some (.int .u32 st1.g) := by rw [hb3.cell]; rfl
          have v6 := hb3.free 6
          have q7 : w3.cell? ⟨g, 7, none⟩ = some (.int .u32 st1.h) := by rw [hb3.cell]; rfl
          have v7 := hb3.free 7
          have hK3 : RowG .u32 w3.drew 1 64 K := RowG.drewN (HK.out.below hbl3 hg) 1
          have hu2 := Tryd.underlying98
          have hi2 : (Tryd.prog.info? 98).map (·.size) = some pl.length := by rw [epl, List.length_map, Hp2.out]; exact sh_size8
          obtain ⟨z, ez⟩ : ∃ z, z = mixS K st1 part2 := ⟨_, rfl⟩
          have hmix : Calls Tryd.prog 31 #[.agg #[.int .u32 st1.a, .int .u32 st1.b, .int .u32 st1.c, .int .u32 st1.d, .int .u32 st1.e, .int .u32 st1.f, .int .u32 st1.g, .int .u32 st1.h], .agg pl.toArray] w3.drew fun e w' => e = .returned (.agg z.arr) ∧ Below w3.drew.heap.size w3.drew w' := by
            have := mix_ok st1 part2 K w3.drew Hp2.out hK3
            rw [← ez, ← epl] at this
            exact this
          obtain ⟨za, zb, zc, zd, ze, zf, zg, zh⟩ := z
          have hmix2 : Calls Tryd.prog 31 #[.agg #[.int .u32 st1.a, .int .u32 st1.b, .int .u32 st1.c, .int .u32 st1.d, .int .u32 st1.e, .int .u32 st1.f, .int .u32 st1.g, .int .u32 st1.h], .agg pl.toArray] w3.drew fun e w' => e = .returned (.agg #[.int .u32 za, .int .u32 zb, .int .u32 zc, .int .u32 zd, .int .u32 ze, .int .u32 zf, .int .u32 zg, .int .u32 zh]) ∧ Below w3.drew.heap.size w3.drew w' := hmix
          have HMIX := Lib.hid hmix2
          have EZ := Lib.hid ez
          clear hmix hmix2 ez hK3
          have Epl := Lib.hid epl
          have Hb3 := Lib.hid hb3
          have Hbl3 := Lib.hid hbl3
          have Hc3 := Lib.hid hc3
          clear epl hb3 hbl3 hc3 ew3 d72 g72
          have hsw : SW K g st1 pl w3.drew := ⟨q0, q1, q2, q3, q4, q5, q6, q7, v0, v1, v2, v3, v4, v5, v6, v7, r2⟩
          have HSW := Lib.hid hsw
          have r1 : w3.drew.rangeAt g 0 [.int .u32 st1.a, .int .u32 st1.b, .int .u32 st1.c, .int .u32 st1.d, .int .u32 st1.e, .int .u32 st1.f, .int .u32 st1.g, .int .u32 st1.h] := fun j v hj => by
            have hjl : j < 8 := (List.getElem?_eq_some_iff.1 hj).1
            rw [Nat.zero_add]
            have hq : j = 0 ∨ j = 1 ∨ j = 2 ∨ j = 3 ∨ j = 4 ∨ j = 5 ∨ j = 6 ∨ j = 7 := by omega
            rcases hq with rfl | rfl | rfl | rfl | rfl | rfl | rfl | rfl
            · exact q0.trans hj
            · exact q1.trans hj
            · exact q2.trans hj
            · exact q3.trans hj
            · exact q4.trans hj
            · exact q5.trans hj
            · exact q6.trans hj
            · exact q7.trans hj
          have R1 := Lib.hid r1
          have R2 := Lib.hid (show w3.drew.rangeAt g 8 pl from r2)
          have U2 := Lib.hid hu2
          have I2 := Lib.hid hi2
          clear hsw r1 r2 hu2 hi2 q0 q1 q2 q3 q4 q5 q6 q7 v0 v1 v2 v3 v4 v5 v6 v7
          refine wp_region_any (by kernel_rfl) ?_
          change wpAny _ _ _ _ _ _ _ (World.drew _)
          refine wpAny_take (i := 0) (oi := ({ dst := some 44, op := Go.Op.move (Go.Operand.tmp 0), type := 84, pos := "digest.go:66", after := #[], guard := none } : Go.Oper)) (v := (Value.pointer (some ⟨g, 0, none⟩))) rfl (by kernel_rfl) (by kernel_rfl) (by kernel_rfl) (fun _ _ _ h => h) (Or.inl ⟨by rfl, ?hy0⟩) ?_
          case hy0 => (intro w; go_simp; first | done | with_reducible rfl)
          simp only [Act.put, List.setIfInBounds_toArray, List.set_cons_zero, List.set_cons_succ]
          refine wpAny_take (i := 1) (oi := ({ dst := some 45, op := Go.Op.move (Go.Operand.tmp 0), type := 84, pos := "digest.go:66", after := #[], guard := none } : Go.Oper)) (v := (Value.pointer (some ⟨g, 0, none⟩))) rfl (by kernel_rfl) (by kernel_rfl) (by kernel_rfl) (fun _ _ _ h => h) (Or.inl ⟨by rfl, ?hy1⟩) ?_
          case hy1 => (intro w; go_simp; first | done | with_reducible rfl)
          simp only [Act.put, List.setIfInBounds_toArray, List.set_cons_zero, List.set_cons_succ]
          refine wpAny_take (i := 2) (oi := ({ dst := some 46, op := Go.Op.nilCheck (Go.Operand.tmp 45), type := 0, pos := "digest.go:66", after := #[{ on := 1, ground := Go.Ground.data }], guard := none } : Go.Oper)) (v := (Value.pointer (some ⟨g, 0, none⟩))) rfl (by kernel_rfl) (by kernel_rfl) (by kernel_rfl) (fun _ _ _ h => h) (Or.inl ⟨by rfl, ?hy2⟩) ?_
          case hy2 => (intro w; go_simp; first | done | with_reducible rfl)
          simp only [Act.put, List.setIfInBounds_toArray, List.set_cons_zero, List.set_cons_succ]
          refine wpAny_take (i := 3) (oi := ({ dst := some 47, op := Go.Op.fieldAddr 100 (Go.Operand.tmp 46) 0, type := 0, pos := "digest.go:66", after := #[{ on := 2, ground := Go.Ground.data }], guard := none } : Go.Oper)) (v := (Value.pointer (some ⟨g, 0, none⟩))) rfl (by kernel_rfl) (by kernel_rfl) (by kernel_rfl) (fun _ _ _ h => h) (Or.inl ⟨by rfl, ?hy3⟩) ?_
          case hy3 => (intro w; go_simp; first | done | with_reducible rfl)
          simp only [Act.put, List.setIfInBounds_toArray, List.set_cons_zero, List.set_cons_succ]
          refine wpAny_take (i := 5) (oi := ({ dst := some 49, op := Go.Op.move (Go.Operand.tmp 0), type := 84, pos := "digest.go:66", after := #[], guard := none } : Go.Oper)) (v := (Value.pointer (some ⟨g, 0, none⟩))) rfl (by kernel_rfl) (by kernel_rfl) (by kernel_rfl) (fun _ _ _ h => h) (Or.inl ⟨by rfl, ?hy5⟩) ?_
          case hy5 => (intro w; go_simp; first | done | with_reducible rfl)
          simp only [Act.put, List.setIfInBounds_toArray, List.set_cons_zero, List.set_cons_succ]
          refine wpAny_take (i := 6) (oi := ({ dst := some 50, op := Go.Op.nilCheck (Go.Operand.tmp 49), type := 0, pos := "digest.go:66", after := #[{ on := 5, ground := Go.Ground.data }], guard := none } : Go.Oper)) (v := (Value.pointer (some ⟨g, 0, none⟩))) rfl (by kernel_rfl) (by kernel_rfl) (by kernel_rfl) (fun _ _ _ h => h) (Or.inl ⟨by rfl, ?hy6⟩) ?_
          case hy6 => (intro w; go_simp; first | done | with_reducible rfl)
          simp only [Act.put, List.setIfInBounds_toArray, List.set_cons_zero, List.set_cons_succ]
          refine wpAny_take (i := 7) (oi := ({ dst := some 51, op := Go.Op.fieldAddr 100 (Go.Operand.tmp 50) 1, type := 0, pos := "digest.go:66", after := #[{ on := 6, ground := Go.Ground.data }], guard := none } : Go.Oper)) (v := (Value.pointer (some ⟨g, 8, none⟩))) rfl (by kernel_rfl) (by kernel_rfl) (by kernel_rfl) (fun _ _ _ h => h) (Or.inl ⟨by rfl, ?hy7⟩) ?_
          case hy7 => (intro w; go_simp; first | done | with_reducible rfl)
          simp only [Act.put, List.setIfInBounds_toArray, List.set_cons_zero, List.set_cons_succ]
          refine wpAny_two (i := 4) (j := 8) (oi := ({ dst := some 48, op := Go.Op.load 96 (Go.Operand.tmp 47), type := 96, pos := "digest.go:66", after := #[{ on := 3, ground := Go.Ground.data }], guard := none } : Go.Oper)) (oj := ({ dst := some 52, op := Go.Op.load 98 (Go.Operand.tmp 51), type := 98, pos := "digest.go:66", after := #[{ on := 7, ground := Go.Ground.data }], guard := none } : Go.Oper)) (by kernel_rfl) (by kernel_rfl) (by kernel_rfl) rfl rfl (di := 48) (dj := 52) rfl rfl (by decide) (vi := .agg #[.int .u32 st1.a, .int .u32 st1.b, .int .u32 st1.c, .int .u32 st1.d, .int .u32 st1.e, .int .u32 st1.f, .int .u32 st1.g, .int .u32 st1.h]) (vj := .agg pl.toArray)
            (fun K' hK' => step_load_mid rfl 96 (.tmp 47) rfl g 0 rfl _ _ R1.out Tryd.underlying96 rfl st_size hK')
            (fun K' hK' => step_load_mid rfl 98 (.tmp 51) rfl g 8 rfl pl _ R2.out U2.out rfl I2.out hK')
            (fun K' hK' => step_load_mid rfl 98 (.tmp 51) rfl g 8 rfl pl _ R2.out U2.out rfl I2.out hK')
            (fun K' hK' => step_load_mid rfl 96 (.tmp 47) rfl g 0 rfl _ _ R1.out Tryd.underlying96 rfl st_size hK')
            ?_
          simp only [Act.put, List.setIfInBounds_toArray, List.set_cons_zero, List.set_cons_succ]
          refine wpAny_ready (rs := [9]) (by kernel_rfl) (by simp) ?_
          refine AllReady.cons (i := 9) (o := ({ dst := some 53, op := Go.Op.call { callee := Go.Callee.value (Go.Operand.func 31), args := #[Go.Operand.tmp 48, Go.Operand.tmp 52], argTypes := #[96, 98] }, type := 96, pos := "digest.go:66", after := #[{ on := 4, ground := Go.Ground.data }, { on := 8, ground := Go.Ground.data }], guard := none } : Go.Oper)) rfl (fun K' hK' => ?_) AllReady.nil
          refine step_call rfl _ (.func 31) rfl rfl 31 rfl Tryd.func31 (by kernel_rfl) (by kernel_rfl) (#[.agg #[.int .u32 st1.a, .int .u32 st1.b, .int .u32 st1.c, .int .u32 st1.d, .int .u32 st1.e, .int .u32 st1.f, .int .u32 st1.g, .int .u32 st1.h], .agg pl.toArray]) (by simp [Act.eval]) (HMIX.out.mono ?_)
          rintro e w4 ⟨rfl, hbm⟩
          refine hK' _ _ ?_; clear hK' K'
          simp only [Act.put, List.setIfInBounds_toArray, List.set_cons_zero, List.set_cons_succ]
          refine wpAny_take (i := 10) (oi := ({ dst := some 54, op := Go.Op.nilCheck (Go.Operand.tmp 44), type := 0, pos := "digest.go:66", after := #[{ on := 0, ground := Go.Ground.data }, { on := 0, ground := Go.Ground.phase }, { on := 1, ground := Go.Ground.phase }, { on := 2, ground := Go.Ground.phase }, { on := 3, ground := Go.Ground.phase }, { on := 4, ground := Go.Ground.phase }, { on := 5, ground := Go.Ground.phase }, { on := 6, ground := Go.Ground.phase }, { on := 7, ground := Go.Ground.phase }, { on := 8, ground := Go.Ground.phase }, { on := 9, ground := Go.Ground.phase }], guard := none } : Go.Oper)) (v := (Value.pointer (some ⟨g, 0, none⟩))) rfl (by kernel_rfl) (by kernel_rfl) (by kernel_rfl) (fun _ _ _ h => h) (Or.inl ⟨by rfl, ?hy10⟩) ?_
          case hy10 => (intro w; go_simp; first | done | with_reducible rfl)
          simp only [Act.put, List.setIfInBounds_toArray, List.set_cons_zero, List.set_cons_succ]
          refine wpAny_take (i := 11) (oi := ({ dst := some 55, op := Go.Op.fieldAddr 100 (Go.Operand.tmp 54) 0, type := 0, pos := "digest.go:66", after := #[{ on := 10, ground := Go.Ground.data }, { on := 0, ground := Go.Ground.phase }, { on := 1, ground := Go.Ground.phase }, { on := 2, ground := Go.Ground.phase }, { on := 3, ground := Go.Ground.phase }, { on := 4, ground := Go.Ground.phase }, { on := 5, ground := Go.Ground.phase }, { on := 6, ground := Go.Ground.phase }, { on := 7, ground := Go.Ground.phase }, { on := 8, ground := Go.Ground.phase }, { on := 9, ground := Go.Ground.phase }], guard := none } : Go.Oper)) (v := (Value.pointer (some ⟨g, 0, none⟩))) rfl (by kernel_rfl) (by kernel_rfl) (by kernel_rfl) (fun _ _ _ h => h) (Or.inl ⟨by rfl, ?hy11⟩) ?_
          case hy11 => (intro w; go_simp; first | done | with_reducible rfl)
          simp only [Act.put, List.setIfInBounds_toArray, List.set_cons_zero, List.set_cons_succ]
          refine wpAny_ready (rs := [12]) (by kernel_rfl) (by simp) ?_
          refine AllReady.cons (i := 12) (o := ({ dst := none, op := Go.Op.store 96 (Go.Operand.tmp 55) (Go.Operand.tmp 53), type := 0, pos := "digest.go:66", after := #[{ on := 11, ground := Go.Ground.data }, { on := 9, ground := Go.Ground.data }, { on := 9, ground := Go.Ground.chain }, { on := 0, ground := Go.Ground.phase }, { on := 1, ground := Go.Ground.phase }, { on := 2, ground := Go.Ground.phase }, { on := 3, ground := Go.Ground.phase }, { on := 4, ground := Go.Ground.phase }, { on := 5, ground := Go.Ground.phase }, { on := 6, ground := Go.Ground.phase }, { on := 7, ground := Go.Ground.phase }, { on := 8, ground := Go.Ground.phase }, { on := 9, ground := Go.Ground.phase }], guard := none } : Go.Oper)) rfl (fun K' hK' => ?_) AllReady.nil
          have hb4 : Blk w4 g 100 (hashL st1 part2 (held1 + cs.length) ((cnt + xs.length) % 18446744073709551616)).toArray := Blk.below (Blk.drewN Hb3.out 1) hbm Hb3.out.lt
          have hl4 := hashL_length st1 part2 (held1 + cs.length) ((cnt + xs.length) % 18446744073709551616) Hp2.out
          refine step_store_mid rfl 96 (.tmp 55) (.tmp 53) rfl g 0 #[.int .u32 za, .int .u32 zb, .int .u32 zc, .int .u32 zd, .int .u32 ze, .int .u32 zf, .int .u32 zg, .int .u32 zh] rfl rfl (hb4.there 0 8 (by simp; omega)) st_size (sh_one .u32 [za, zb, zc, zd, ze, zf, zg, zh]) ?_
          refine hK' _ _ ?_; clear hK' K'
          simp only [Act.put, List.setIfInBounds_toArray, List.set_cons_zero, List.set_cons_succ]
          refine wpAny_done (by kernel_rfl) ?_ _
          obtain ⟨w5, ew5⟩ : ∃ w5, w5 = w4.setCells g 0 #[Value.int .u32 za, .int .u32 zb, .int .u32 zc, .int .u32 zd, .int .u32 ze, .int .u32 zf, .int .u32 zg, .int .u32 zh].toList := ⟨_, rfl⟩
          rw [← ew5]
          have hb5 : Blk w5 g 100 (hashL ⟨za, zb, zc, zd, ze, zf, zg, zh⟩ part2 (held1 + cs.length) ((cnt + xs.length) % 18446744073709551616)).toArray := by
            rw [ew5, ← hashL_state st1]
            exact hb4.cells _ 0 (by simp [St.list]; omega)
          have hbl5 : Below g w w5 := by rw [ew5]; exact below_setCells (Nat.le_refl _) (Hbl3.out.drew.trans (hbm.mono (Nat.le_of_lt Hb3.out.lt))) _ _
          have hc5 : ∀ i, i < xs.length → w5.cell? ⟨b, off + i, none⟩ = some (.int .u8 (xs.getD i 0)) := fun i hi => by
            have h3 := Hc3.out i hi
            rw [ew5, World.cell?_setCells_out _ _ _ _ _ (fun h _ => absurd h hbg)]
            exact (hbm.cell (p := ⟨b, off + i, none⟩) (World.block_lt_of_cell? w3 _ h3)).trans h3
          have e72 := hb5.cell 72
          rw [List.getElem?_toArray, hashL_72 _ _ _ _ Hp2.out] at e72
          have h72 := hb5.free 72
          have Hb5 := Lib.hid hb5
          have Hbl5 := Lib.hid hbl5
          have Hc5 := Lib.hid hc5
          clear ew5 hb5 hbl5 hc5 hbm hb4 hl4 HMIX HSW R1 R2 U2 I2
          go_wp2_with fail
          go_roundw
          case rel =>
            refine ⟨k + cs.length, ⟨za, zb, zc, zd, ze, zf, zg, zh⟩, part2, 0, hpn, ?_, Hp2.out, by omega, Hbl5.out.setCell (p := ⟨g, 72, none⟩) (Nat.le_refl g) _, ?_, fun i hi => ?_, ?_⟩
            · refine Hall.out _ ?_
              rw [feed_full K st1 _ part1 held1 Hp1.out Hh1.out (by rw [Hlc.out]; exact h64), ← Epart2.out, ← EZ.out]
            · have := Hb5.out.setL 72 (.int .i64 0)
              rw [hashL_set72 _ _ _ _ _ Hp2.out] at this
              exact this
            · rw [World.cell?_setCell_other _ _ _ _ (by intro h; injection h with h; exact hbg h.symm)]
              exact Hc5.out i hi
            · first | exact tail_one Em.out Ec1.out Eo1.out hcx hcc hpn | exact tail_two Em.out Ec1.out Eo1.out hpn
          case measure => simp; omega
        · have t64 : (((held1 : Int) + (cs.length : Int)) == 64) = false := by rw [beq_eq_false_iff_ne]; omega
          go_wp2_with fail
          go_roundw
          case rel =>
            have hc64 : held1 + cs.length < 64 := by omega
            refine ⟨k + cs.length, st1, part2, held1 + cs.length, hpn, ?_, Hp2.out, hc64, Hbl2.out.setCell (p := ⟨g, 72, none⟩) (Nat.le_refl g) _, ?_, fun i hi => ?_, ?_⟩
            · refine Hall.out _ ?_
              rw [feed_part K st1 _ part1 held1 Hp1.out (by rw [Hlc.out]; exact hc64), ← Epart2.out, Hlc.out]
            · have := Hb2.out.setL 72 (.int .i64 (held1 + cs.length))
              rw [hashL_set72 _ _ _ _ _ Hp2.out] at this
              exact this
            · rw [World.cell?_setCell_other _ _ _ _ (by intro h; injection h with h; exact hbg h.symm)]
              exact Hc2.out i hi
            · first | exact tail_one Em.out Ec1.out Eo1.out hcx hcc hpn | exact tail_two Em.out Ec1.out Eo1.out hpn
          case measure => simp; omega)
    · go_wp2_with fail
      go_end0
      have hk2 : k = xs.length := hlt
      subst hk2
      have hf2 := Hf.out
      rw [List.take_length] at hf2
      rw [hf2, En.out]
      exact ⟨rfl, Hbl.out, Hbk.out⟩
end Go.Proofs.YtgehbfnfhjpjbaaDoor
