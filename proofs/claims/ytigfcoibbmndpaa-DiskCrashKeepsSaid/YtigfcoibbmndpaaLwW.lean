/- The crash's promise: the plain side of DiskCrashKeeps; left; a list of Puts that grows. -/
import Derived.Test.YtigfcoibbmndpaaLwR
import Derived.Outline
import Derived.Deep.AppendLies
namespace Go.Proofs.Ytigfcoibbmndpaa
open Go.RowKit
open Go.ChangeMaps
set_option linter.unusedVariables false
set_option linter.unusedSimpArgs false
/-- The writes to block k. -/
def mine (ps : List PutV) (nb k : Nat) : List PutV := ps.filter fun p => decide (p.at nb = k)
theorem mine_snoc (ps : List PutV) (p : PutV) (nb k : Nat) : mine (ps ++ [p]) nb k = if p.at nb = k then mine ps nb k ++ [p] else mine ps nb k := by
  unfold mine
  rw [List.filter_append]
  by_cases h : p.at nb = k
  · rw [if_pos h]; simp [h]
  · rw [if_neg h]; simp [h]
theorem take_snoc (ps : List PutV) (i : Nat) (h : i < ps.length) : ps.take (i + 1) = ps.take i ++ [ps.getD i p0] := by
  rw [List.take_add_one, List.getD_eq_getElem?_getD, List.getElem?_eq_getElem h]; rfl
/-- A disk behind writes into the cache. -/
structure Wrote (s0 s : DSt) (ps : List PutV) : Prop where
  nb : s.nb = s0.nb
  sz : s.sz = s0.sz
  du : s.dur = s0.dur
  sp : s.sp = s0.sp
  lv : Live s
  ca : ∀ k, s.ca k = (mine ps s0.nb k).map fun p => padF p.txt s0.sz
theorem Wrote.start {s0 s : DSt} (h : Alike s0 s) (h0 : ∀ k, s0.ca k = []) (hl : Live s) : Wrote s0 s [] := ⟨h.nb, h.sz, h.du, h.sp, hl, fun k => by rw [h.ca, h0]; rfl⟩
theorem Wrote.put {s0 s : DSt} {ps : List PutV} (h : Wrote s0 s ps) (p : PutV) : Wrote s0 (pushS s (p.at s0.nb) (padF p.txt s0.sz)) (ps ++ [p]) := by
  refine ⟨h.nb, h.sz, h.du, h.sp, h.lv, fun k => ?_⟩
  show (if k = p.at s0.nb then s.ca (p.at s0.nb) ++ [padF p.txt s0.sz] else s.ca k) = _
  rw [mine_snoc]
  by_cases e : k = p.at s0.nb
  · rw [if_pos e, if_pos e.symm, h.ca, List.map_append, e]; rfl
  · rw [if_neg e, if_neg (fun h => e h.symm), h.ca]
theorem Wrote.read {s0 s : DSt} {ps : List PutV} (h : Wrote s0 s ps) (j : Int) : Wrote s0 (readS s j) ps := by
  unfold readS
  by_cases e : readE s j = 0
  · rw [if_pos e]; exact ⟨h.nb, h.sz, h.du, h.sp, h.lv, h.ca⟩
  · rw [if_neg e]; exact h
theorem mine_len (ps : List PutV) (nb k : Nat) : (mine ps nb k).length ≤ ps.length := List.length_filter_le _ _
theorem read_pushed {s : DSt} (h : Live s) {k : Nat} (hk : k < s.nb) (xs : List Int) : readE (pushS s k xs) k = 0 ∧ readX (pushS s k xs) k = xs := by
  obtain ⟨r1, r2⟩ := read_view (s := pushS s k xs) h hk
  obtain ⟨v1, v2⟩ := view_push s k k xs
  rw [if_pos rfl] at v1 v2
  rw [v2] at r1 r2
  rw [v1] at r2
  exact ⟨r1, r2⟩
theorem crash_keep {s0 s : DSt} {ps : List PutV} (h : Wrote s0 s ps) (h0 : ∀ k, s0.ca k = []) (hl0 : Live s0) (ks : List Int) {k : Nat} (hk : k < s0.nb) :
    (keepP ks k (mine ps s0.nb k).length = 0 → readE (crashS s ks) k = readE s0 k ∧ readX (crashS s ks) k = readX s0 k) ∧
    ∀ m, keepP ks k (mine ps s0.nb k).length = m + 1 → readE (crashS s ks) k = 0 ∧ readX (crashS s ks) k = padF ((mine ps s0.nb k).getD m p0).txt s0.sz := by
  have hlv : Live (crashS s ks) := ⟨rfl, rfl⟩
  have hn : k < (crashS s ks).nb := by show k < s.nb; rw [h.nb]; exact hk
  obtain ⟨r1, r2⟩ := read_view hlv hn
  obtain ⟨q1, q2⟩ := read_view hl0 hk
  have hkk : keepK s ks k = keepP ks k (mine ps s0.nb k).length := by unfold keepK; rw [h.ca, List.length_map]
  have hca : (crashS s ks).ca k = [] := rfl
  have hdu : (crashS s ks).dur k = if false = true ∨ keepK s ks k = 0 then s.dur k else (s.ca k).getD (keepK s ks k - 1) [] := rfl
  have hsp : (crashS s ks).sp k = if false = true ∨ keepK s ks k = 0 then s.sp k else false := rfl
  have hvx : viewX (crashS s ks) k = (crashS s ks).dur k := by unfold viewX; rw [hca]; simp
  have hvb : viewB (crashS s ks) k = (crashS s ks).sp k := by unfold viewB; rw [hca]; simp
  have hwx : viewX s0 k = s0.dur k := by unfold viewX; rw [h0]; simp
  have hwb : viewB s0 k = s0.sp k := by unfold viewB; rw [h0]; simp
  rw [hkk] at hdu hsp
  rw [hdu] at hvx
  rw [hsp] at hvb
  rw [hvb] at r1 r2
  rw [hvx] at r2
  constructor
  · intro e
    rw [e] at r1 r2
    simp only [or_true, if_true] at r1 r2
    rw [h.du, h.sp] at r2
    rw [h.sp] at r1
    rw [hwb] at q1 q2
    rw [hwx] at q2
    exact ⟨r1.trans q1.symm, r2.trans q2.symm⟩
  · intro m e
    rw [e] at r1 r2
    rw [if_neg (by simp)] at r1 r2
    rw [if_neg (by simp)] at r2
    refine ⟨r1, ?_⟩
    rw [r2, h.ca, Nat.add_sub_cancel]
    have hm : m < (mine ps s0.nb k).length := by have := keepP_le ks k (mine ps s0.nb k).length; omega
    rw [List.getD_eq_getElem?_getD, List.getElem?_map, List.getD_eq_getElem?_getD, List.getElem?_eq_getElem hm]
    rfl
theorem mine_mem {ps : List PutV} {nb k m : Nat} (h : m < (mine ps nb k).length) : ∃ i, i < ps.length ∧ ps.getD i p0 = (mine ps nb k).getD m p0 := by
  have h1 : (mine ps nb k).getD m p0 ∈ mine ps nb k := by
    rw [List.getD_eq_getElem?_getD, List.getElem?_eq_getElem h]; exact List.getElem_mem _
  have h2 : (mine ps nb k).getD m p0 ∈ ps := (List.mem_filter.1 h1).1
  obtain ⟨i, hi, e⟩ := List.mem_iff_getElem.1 h2
  exact ⟨i, hi, by rw [List.getD_eq_getElem?_getD, List.getElem?_eq_getElem hi]; exact e⟩
set_option maxHeartbeats 2000000 in
set_option maxRecDepth 100000 in
theorem left_ok (w : World) (v : Value) (ks : List Int) (k n : Nat) (hr : Rd .u8 w v ks) (hb : BytesL ks) (hl : ks.length ≤ 9223372036854775807) (hk : k ≤ 8192) (hn : n ≤ 1000000000000000) :
    Calls Try.prog 23 #[v, .int .i64 k, .int .i64 n] w fun e w' => e = .returned (.int .i64 (keepP ks k n)) ∧ ∃ m, w' = w.drewN m := by
  obtain ⟨A, cp, rfl⟩ := hr.slice
  obtain ⟨P, eP⟩ : ∃ P, P = ks.length := ⟨_, rfl⟩
  obtain ⟨kp, ekp⟩ : ∃ kp, kp = keepP ks k n := ⟨_, rfl⟩
  rw [← eP] at hl ⊢
  rw [← ekp]
  by_cases hP : P = 0
  · have e0 : kp = 0 := by rw [ekp]; unfold keepP; rw [if_pos (by rw [← eP]; exact hP)]
    subst e0
    subst hP
    clear hr ekp eP
    go_enter Try.func23, Try.ntmps23
    go_wp2_with fail
    go_ret
    exact ⟨rfl, 0, rfl⟩
  · have hy := hb.at (k % ks.length)
    have hyk : ks.getD (k % ks.length) 0 % ((n : Int) + 1) = (kp : Int) := by
      rw [ekp]; unfold keepP
      rw [if_neg (by rw [← eP]; exact hP)]
      obtain ⟨yn, eyn⟩ : ∃ yn : Nat, ks.getD (k % ks.length) 0 = (yn : Int) := ⟨_, (Int.toNat_of_nonneg hy.1).symm⟩
      rw [eyn, Int.toNat_natCast]
      exact (Int.natCast_emod yn (n + 1)).symm
    rw [← eP] at hy hyk
    obtain ⟨y, ey⟩ : ∃ y, y = ks.getD (k % P) 0 := ⟨_, rfl⟩
    rw [← ey] at hy hyk
    obtain ⟨b, off, rfl, cy⟩ : ∃ b off, A = some ⟨b, off, none⟩ ∧ w.cell? ⟨b, off + k % P, none⟩ = some (.int .u8 y) := by
      rcases hr with ⟨h, _⟩ | ⟨b, off, c, e, g1, g2, g3, g4⟩
      · rw [eP, h] at hP; simp at hP
      · simp only [Value.slice.injEq] at e
        exact ⟨b, off, e.1, by rw [ey]; exact g4 _ (by rw [eP]; exact Nat.mod_lt _ (by rw [← eP]; omega))⟩
    have hPp : 0 < P := by omega
    have m1 : (((k : Int) % (P : Int)) : Int).toNat = k % P := by omega
    have m2 : (0 : Int) ≤ (k : Int) % (P : Int) := by omega
    have m3 : (k : Int) % (P : Int) < (P : Int) := by have := Nat.mod_lt k hPp; omega
    have m5 : k % P < P := Nat.mod_lt k hPp
    have t0 : (1 : Int) ≤ (P : Int) := by omega
    have hy0 := hy.1
    have hy1 := hy.2
    have HKP := Lib.hid hyk
    clear hr ekp eP ey hy hyk hP hb
    go_enter Try.func23, Try.ntmps23
    go_wp2_with fail
    (try (go_quiet (fail); go_wp2_with fail))
    go_ret
    refine ⟨?_, ?_⟩
    · first | exact congrArg (fun x => Ending.returned (.int .i64 x)) HKP.out | (rw [← HKP.out]; rfl) | (simp only [HKP.out]; rfl)
    · first | exact ⟨0, rfl⟩ | exact ⟨_, rfl⟩
/-- The cells of a list of Puts. -/
def cellsP (ps : List PutV) : List Value := ps.flatMap fun p => [.int .i64 p.blk, p.tv, .bool p.past]
theorem cellsP_snoc (ps : List PutV) (p : PutV) : cellsP (ps ++ [p]) = cellsP ps ++ [.int .i64 p.blk, p.tv, .bool p.past] := by unfold cellsP; rw [List.flatMap_append]; simp
theorem cellsP_at (ps : List PutV) (i : Nat) (h : i < ps.length) : (cellsP ps)[i * 3]? = some (.int .i64 (ps.getD i p0).blk) ∧ (cellsP ps)[i * 3 + 1]? = some (ps.getD i p0).tv ∧ (cellsP ps)[i * 3 + 2]? = some (.bool (ps.getD i p0).past) := by
  induction ps generalizing i with
  | nil => simp at h
  | cons p ps ih =>
    have e : cellsP (p :: ps) = [.int .i64 p.blk, p.tv, .bool p.past] ++ cellsP ps := rfl
    rw [e]
    match i with
    | 0 => exact ⟨rfl, rfl, rfl⟩
    | i + 1 =>
      obtain ⟨h1, h2, h3⟩ := ih i (by simpa using h)
      rw [List.getD_cons_succ, show (i + 1) * 3 = i * 3 + 3 by omega, show i * 3 + 3 + 1 = i * 3 + 1 + 3 by omega, show i * 3 + 3 + 2 = i * 3 + 2 + 3 by omega]
      refine ⟨?_, ?_, ?_⟩
      · rw [List.getElem?_append_right (by simp), show i * 3 + 3 - [Value.int .i64 p.blk, p.tv, .bool p.past].length = i * 3 by simp]; exact h1
      · rw [List.getElem?_append_right (by simp), show i * 3 + 1 + 3 - [Value.int .i64 p.blk, p.tv, .bool p.past].length = i * 3 + 1 by simp]; exact h2
      · rw [List.getElem?_append_right (by simp), show i * 3 + 2 + 3 - [Value.int .i64 p.blk, p.tv, .bool p.past].length = i * 3 + 2 by simp]; exact h3
theorem app3 {P : Program} {ops : Array Oper} {rest : List Oper} {o : Oper} {a : Act} {Q : Exit → Act → World → Prop} {W : World} (hgd : o.guard = none) (s x : Operand) (t : TypeId)
    (ho : o.op = .call { callee := .builtin .append, args := #[s, x], argTypes := #[t, t] }) (B : Nat) (e : TypeId) (z : Value) (bytes : Nat) (ht : P.underlying t = some (.slice e))
    (hinfo : (P.info? e).map (fun i => (i.zero, i.size, i.bytes)) = some (some z, 3, bytes)) (hz : z.cells.size = 3) (v : Value) (n : Nat) (xs : List Value) (hs : a.eval s = v) (hown : W.ownsRow B e 3 v n xs)
    (u0 u1 u2 : Value) (c : Nat) (hx : a.eval x = .slice (some ⟨W.heap.size, 0, none⟩) 1 c) (hu0 : u0.oneCell' = true) (hu1 : u1.oneCell' = true) (hu2 : u2.oneCell' = true) (hn : n + 1 ≤ maxLen) (hb : (n + 1) * bytes ≤ 140737488355328) (hB : B ≤ W.heap.size)
    (h : ∀ v' w', w'.ownsRow B e 3 v' (n + 1) (xs ++ [u0, u1, u2]) → W.grownBy w' v.ownBlock → wpList P ops Q rest (a.put o.dst v') w') : wpList P ops Q (o :: rest) a (W.alloc (.cells #[u0, u1, u2] e)) := by
  obtain ⟨i, hi, hzz⟩ := Option.map_eq_some_iff.1 hinfo
  simp only [Prod.mk.injEq] at hzz
  obtain ⟨h0, h1, h2⟩ := hzz
  refine wpList_append_own _ hgd s x t ho B e i z 3 bytes ht hi h0 h1 h2 hz (by decide) v n xs hs (hown.alloc _) ⟨W.heap.size, 0, none⟩ 1 c [u0, u1, u2] hx rfl ?_ ?_ hn hb (by rw [size_alloc]; omega) ?_
  · exact World.news_of_block (cs := #[u0, u1, u2]) (t := e) (fr := (0, 0)) (Blk.new W e #[u0, u1, u2])
  · intro u' hu'
    simp only [List.mem_cons, List.not_mem_nil, or_false] at hu'
    rcases hu' with rfl | rfl | rfl
    · exact hu0
    · exact hu1
    · exact hu2
  · intro v' w' h3 h4 _
    refine h v' w' h3 (grown_alloc h4 ?_)
    intro e1
    have := (hown.lt W.heap.size e1).2
    omega
theorem own3_below {w w1 : World} {B : Nat} {e : TypeId} {v : Value} {n : Nat} {xs : List Value} (h : w.ownsRow B e 3 v n xs) (hb : Below w.heap.size w w1) : w1.ownsRow B e 3 v n xs := by
  refine ⟨h.1, ?_⟩
  rcases h.2 with h | ⟨g, cap, cur, rfl, a1, a2, a3⟩
  · exact .inl h
  · exact .inr ⟨g, cap, cur, rfl, a1, (hb.block g (Array.getElem?_eq_some_iff.1 a2).1).trans a2, a3⟩
theorem own3_cells {w : World} {B : Nat} {e : TypeId} {v : Value} {n : Nat} {xs : List Value} (h : w.ownsRow B e 3 v n xs) (hn : 0 < n) : ∃ g cap, v = .slice (some ⟨g, 0, none⟩) n cap ∧ ∀ j u, xs[j]? = some u → w.cell? ⟨g, j, none⟩ = some u := by
  obtain ⟨g, cap, rfl, _, _⟩ := h.form hn
  refine ⟨g, cap, rfl, fun j u hj => ?_⟩
  have := h.cells (g := g) rfl j u hj
  rw [Go.WideShapes.add_plain, Nat.zero_add] at this
  exact this
theorem own3_len {w : World} {B : Nat} {e : TypeId} {v : Value} {n : Nat} {xs : List Value} (h : w.ownsRow B e 3 v n xs) : ∃ A c, v = .slice A n c := by
  rcases h.2 with ⟨h, h0⟩ | ⟨g, cap, cur, h, _⟩
  · exact ⟨none, 0, by rw [h, h0]⟩
  · exact ⟨_, _, h⟩
theorem below_grown3 {w w' : World} {B C : Nat} {e : TypeId} {v : Value} {n : Nat} {xs : List Value} (h : w.ownsRow B e 3 v n xs) (hg : w.grownBy w' v.ownBlock) (hC : C ≤ B) (hC2 : C ≤ w.heap.size) : Below C w w' :=
  ⟨hg.os, hg.tape, hg.output, hg.size, fun k hk => hg.block k (by omega) (fun e => by have := (h.lt k e.symm).1; omega)⟩
end Go.Proofs.Ytigfcoibbmndpaa
