/- Joined of the texts LxA LxB LxC LxD. -/
import Derived.Test.YtigfcoibbmndpaaGreatMxE
import Derived.Laws.CopyOwn
import Derived.Lib.SliceRun
import Derived.Outline
import Derived.Deep.AppendLies
import Derived.Deep.RegionLaw
/- Lists handed in with room behind them: hand, arg, untouched of replicalaw02. -/
namespace Go.Proofs.YtigfcoibbmndpaaGreat
open Go.RowKit
set_option linter.unusedVariables false
set_option linter.unusedSimpArgs false
/-- The bytes zs, then the marks 200, 201, .. up to number j; zeroes behind. -/
def handF (zs : List Int) (j i : Nat) : Int := if i < zs.length then zs.getD i 0 else if i < zs.length + j then 200 + ((i - zs.length : Nat) : Int) else 0
theorem handF_zero (zs : List Int) (i : Nat) : handF zs 0 i = if i < zs.length then zs.getD i 0 else 0 := by
  unfold handF
  by_cases h : i < zs.length
  · rw [if_pos h, if_pos h]
  · rw [if_neg h, if_neg h, if_neg (by omega)]
theorem splice_at (L : Nat) (zs : List Int) (hz : zs.length = L) (i : Nat) (hi : i < L + 6) :
    (splice (List.replicate (L + 6) (Value.int .u8 0)) 0 (zs.map (Value.int .u8)))[i]? = some (.int .u8 (handF zs 0 i)) := by
  rw [handF_zero]
  unfold splice
  rw [List.take_zero, List.nil_append, Nat.zero_add, List.length_map, List.getElem?_append, List.length_map]
  by_cases e : i < zs.length
  · rw [if_pos e, if_pos e, List.getElem?_map, List.getD_eq_getElem?_getD, List.getElem?_eq_getElem e]; rfl
  · rw [if_neg e, if_neg e, List.getElem?_drop, List.getElem?_replicate, if_pos (by omega)]
/-- What hand has made. -/
def HandQ (w : World) (zs : List Int) (e : Ending) (w' : World) : Prop :=
  e = .returned (.slice (some ⟨w.heap.size, 0, none⟩) (zs.length + 6) (zs.length + 6)) ∧ Below w.heap.size w w' ∧ RowA .u8 5 w' w.heap.size (zs.length + 6) (handF zs 6)
theorem hand_step {w wr : World} {zs : List Int} {j : Nat} (h : RowA .u8 5 wr w.heap.size (zs.length + 6) (handF zs j)) :
    RowA .u8 5 (wr.setCell ⟨w.heap.size, zs.length + j, none⟩ (.int .u8 (200 + (j : Int)))) w.heap.size (zs.length + 6) (handF zs (j + 1)) := by
  refine (h.put _ _).congr (fun i hi => ?_)
  unfold handF
  by_cases e : i = zs.length + j
  · subst e; rw [if_pos rfl, if_neg (by omega), if_pos (by omega)]; omega
  · rw [if_neg e]
    by_cases e1 : i < zs.length
    · rw [if_pos e1, if_pos e1]
    · rw [if_neg e1, if_neg e1]
      by_cases e2 : i < zs.length + j
      · rw [if_pos e2, if_pos (by omega)]
      · rw [if_neg e2, if_neg (by omega)]
set_option maxHeartbeats 1000000 in
set_option maxRecDepth 100000 in
theorem hand_ok (v : Value) (zs : List Int) (w : World) (hr : Rd .u8 w v zs) (hm : zs.length ≤ 140737488351232) :
    Calls Tryz.prog 16 #[v] w (HandQ w zs) := by
  have hmk := fun w => run_make_row' (P := Tryz.prog) 22 5 (.int .u8 0) 1 Tryz.underlying22 hd_info5 rfl .i64 .i64 (zs.length + 6) (by omega) (by omega) w
  simp only [Int.natCast_add, Int.cast_ofNat_Int] at hmk
  obtain ⟨A, c, rfl⟩ := hr.slice
  obtain ⟨L, eL⟩ : ∃ L, L = zs.length := ⟨_, rfl⟩
  have HR := Lib.hid hr
  have HL := Lib.hid eL
  rw [← eL] at hmk hm ⊢
  clear hr eL
  go_enter Tryz.func16, Tryz.ntmps16
  go_wp2_with (with_reducible refine wpList_copy_splice rfl (.tmp 9) (.tmp 10) 22 22 rfl 5 Tryz.underlying22 hd_size5 _ _ _ _ _ _ rfl rfl w.heap.size 0 (List.replicate (L + 6) (.int .u8 0)) 5 ?c1 (zs.map (Value.int .u8)) ?c2 ?c3 ?c4 ?c5 w.heap.size w ?c6 (Nat.le_refl _) ?_)
  case c1 =>
    have : madeCells #[Value.int .u8 0] (L + 6) = (List.replicate (L + 6) (Value.int .u8 0)).toArray := made_repl _ _
    rw [← this]
    exact Blk.new _ _ _
  case c2 => rw [List.length_map, ← HL.out]; exact (Nat.min_eq_left (by omega)).symm
  case c3 =>
    intro hp
    rcases HR.out with ⟨h0, _⟩ | ⟨b, off, c', e, g1, g2, g3, g4⟩
    · rw [h0] at hp; simp at hp
    · simp only [Value.slice.injEq] at e
      refine ⟨_, e.1, fun j x hj => ?_⟩
      have hj' : j < zs.length := (List.getElem?_eq_some_iff.1 hj).1
      rw [Go.WideShapes.add_plain, World.cell?_alloc_lt _ _ _ g3, g4 j hj', List.getD_eq_getElem?_getD, hj]
      rfl
  case c4 => have := HL.out; simp; omega
  case c5 => intro x hx; simp only [List.mem_map] at hx; obtain ⟨y, _, rfl⟩ := hx; rfl
  case c6 => exact (Below.refl _ _).alloc (Nat.le_refl _) _
  intro w1 hh hb
  have hrow : RowA .u8 5 w1 w.heap.size (L + 6) (handF zs 0) := by
    refine ⟨_, hh.out, ?_, fun i hi => ?_⟩
    · have := HL.out; simp [splice]; omega
    · have := splice_at L zs HL.out.symm i hi
      simpa using this
  have HROW := Lib.hid hrow
  clear hrow hh
  go_wp2_with fail
  go_loopw [4] (fun i wr => ∃ j : Nat, j ≤ 6 ∧ i = .int .i64 j ∧ Below w.heap.size w wr ∧ RowA .u8 5 wr w.heap.size (L + 6) (handF zs j)) (fun i _ => 6 - (intOf i).toNat)
  case atStart => exact ⟨0, by omega, rfl, hb, HROW.out⟩
  case round =>
    obtain ⟨j, hj, rfl, hB, hrow⟩ := hrel
    have HB := Lib.hid hB
    have HROW2 := Lib.hid hrow
    clear hB hrow HROW hb
    by_cases hlt : j < 6
    · have hc := HROW2.out.cell (L + j) (by omega)
      have hf := HROW2.out.free (L + j)
      go_wp2
      go_roundw
      case rel => exact ⟨j + 1, by omega, by go_num, HB.out.setCell (Nat.le_refl _) _, by rw [HL.out] at HROW2 ⊢; exact hand_step HROW2.out⟩
      case measure => simp [intOf] <;> omega
    · obtain rfl : j = 6 := by omega
      have hfin : HandQ w zs (.returned (.slice (some ⟨w.heap.size, 0, none⟩) (L + 6) (L + 6))) wr := by
        have h1 := HROW2.out
        rw [HL.out] at h1 ⊢
        exact ⟨rfl, HB.out, h1⟩
      go_wp2
      go_ret
      exact hfin
/-- What arg gives of it. -/
def argV (g : Nat) (v : Value) (L : Nat) : Value := match v with | .slice none _ _ => .slice none 0 0 | _ => .slice (some ⟨g, 0, none⟩) L (L + 6)
set_option maxHeartbeats 1000000 in
theorem arg_ok (g L c : Nat) (A : Option Addr) (w : World) (hL : L ≤ 140737488351232) : Calls Tryz.prog 18 #[.slice (some ⟨g, 0, none⟩) (L + 6) (L + 6), .slice A L c] w fun e w' => e = .returned (argV g (.slice A L c) L) ∧ w = w' := by
  have hn := fun w => Lib.run_eql_slice_nil (P := Tryz.prog) w 22 5 A L c 0 0 Tryz.underlying22
  cases A
  · go_enter Tryz.func18, Tryz.ntmps18
    go_wp2
    go_ret
    exact ⟨rfl, rfl⟩
  · go_enter Tryz.func18, Tryz.ntmps18
    go_wp2
    go_ret
    exact ⟨rfl, rfl⟩
set_option maxHeartbeats 1000000 in
theorem untouched_ok (g : Nat) (v : Value) (zs : List Int) (w : World) (hr : Rd .u8 w v zs) (hm : zs.length ≤ 140737488351232) (hg : RowA .u8 5 w g (zs.length + 6) (handF zs 6)) :
    Calls Tryz.prog 20 #[.slice (some ⟨g, 0, none⟩) (zs.length + 6) (zs.length + 6), v] w (SameP w true) := by
  obtain ⟨A, c, rfl⟩ := hr.slice
  obtain ⟨L, eL⟩ : ∃ L, L = zs.length := ⟨_, rfl⟩
  have hS : Calls Tryz.prog 30 #[.slice (some ⟨g, 0, none⟩) zs.length (zs.length + 6), .slice A zs.length c] w (SameP w true) := by
    have := sameB_ok _ _ zs zs w (hg.rd zs (zs.length + 6) (by omega) (by omega) (fun i hi => by unfold handF; rw [if_pos hi])) hr (by unfold maxLen; omega) (by unfold maxLen; omega)
    rw [decide_eq_true rfl] at this
    exact this
  have hc : ∀ j, j < 6 → w.cell? ⟨g, zs.length + j, none⟩ = some (.int .u8 (200 + (j : Int))) := by
    intro j hj
    rw [hg.cell _ (by omega)]
    unfold handF
    rw [if_neg (by omega), if_pos (by omega)]
    congr 3; omega
  rw [← eL] at hS hc hm ⊢
  have HS := Lib.hid hS
  have HC := Lib.hid hc
  clear hS hc hg hr eL
  go_enter Tryz.func20, Tryz.ntmps20
  go_wp2
  go_loop [5] (fun i => ∃ j : Nat, j ≤ 6 ∧ i = .int .i64 j) (fun i => 6 - (intOf i).toNat)
  case atStart => exact ⟨0, by omega, rfl⟩
  case round =>
    obtain ⟨j, hj, rfl⟩ := hrel
    by_cases hlt : j < 6
    · have hc := HC.out j hlt
      go_wp2
      go_round
      case rel => exact ⟨j + 1, by omega, by go_num⟩
      case measure => simp [intOf] <;> omega
    · obtain rfl : j = 6 := by omega
      go_wp2_with fail
      refine HS.out.mono ?_
      rintro e w1 ⟨m, rfl, rfl⟩
      go_wp2
      go_ret
      exact ⟨m, rfl, rfl⟩
theorem argV_rd {w : World} {g : Nat} {v : Value} {zs : List Int} (h : Rd .u8 w v zs) (hg : RowA .u8 5 w g (zs.length + 6) (handF zs 6)) : Rd .u8 w (argV g v zs.length) zs := by
  obtain ⟨A, c, rfl⟩ := h.slice
  cases A
  · rcases h with ⟨rfl, _⟩ | ⟨b, off, c', e, _⟩
    · exact .inl ⟨rfl, _, _, rfl⟩
    · simp at e
  · exact hg.rd zs (zs.length + 6) (by omega) (by omega) (fun i hi => by unfold handF; rw [if_pos hi])
end Go.Proofs.YtigfcoibbmndpaaGreat
/- The book's lists: grown, Book.bytes. -/
namespace Go.Proofs.YtigfcoibbmndpaaGreat
open Go.RowKit
open Go.ChangeMaps
set_option linter.unusedVariables false
set_option linter.unusedSimpArgs false
def GrownQ (w : World) (B : Nat) (v : Value) (n : Nat) (xs : List Value) (m : Int) (e : Ending) (w' : World) : Prop :=
  ∃ v', e = .returned v' ∧ w'.ownsRow B 5 1 v' (n + 90) (xs ++ List.replicate 90 (.int .u8 m)) ∧ OnlyP (fun b => v.ownBlock = some b) w w' ∧ (∀ g, v'.ownBlock = some g → v.ownBlock = some g ∨ w.heap.size ≤ g)
set_option maxHeartbeats 4000000 in
set_option maxRecDepth 100000 in
theorem grown_ok (w : World) (B : Nat) (v : Value) (n : Nat) (xs : List Value) (m : Int) (hown : w.ownsRow B 5 1 v n xs) (hB : B ≤ w.heap.size) (hn : n ≤ 140737488351000) :
    Calls Tryz.prog 73 #[v, .int .u8 m] w (GrownQ w B v n xs m) := by
  obtain ⟨Q, eQ⟩ : ∃ Q, Q = GrownQ w B v n xs m := ⟨_, rfl⟩
  rw [← eQ]
  have EQ := Lib.hid eQ
  have HOWN := Lib.hid hown
  obtain ⟨i0, hi0, hz0, hz1, hz2⟩ := info_parts info_u8
  clear eQ hown
  go_enter Tryz.func73, Tryz.ntmps73
  go_wp2_with fail
  go_loopw [0, 5] (fun u b wr => ∃ t : Nat, t ≤ 90 ∧ b = .int .i64 t ∧ wr.ownsRow B 5 1 u (n + t) (xs ++ List.replicate t (.int .u8 m)) ∧ OnlyP (fun b => v.ownBlock = some b) w wr ∧ (∀ g, u.ownBlock = some g → v.ownBlock = some g ∨ w.heap.size ≤ g)) (fun _ b _ => 90 - (intOf b).toNat)
  case atStart => exact ⟨0, by omega, rfl, by simpa using HOWN.out, OnlyP.refl _ _, fun g hg => .inl hg⟩
  case round =>
    obtain ⟨t, ht, rfl, ho, hon, hat⟩ := hrel
    have HO := Lib.hid ho
    have HON := Lib.hid hon
    have HAT := Lib.hid hat
    have hsz : w.heap.size ≤ wr.heap.size := hon.size
    clear ho hon hat
    by_cases hlt : t < 90
    · have hnews : ∀ j u, ([Value.int .u8 m])[j]? = some u → (wr.alloc (.cells #[.int .u8 m] 5)).cell? ((⟨wr.heap.size, 0, none⟩ : Addr).add j) = some u := World.news_of_block (cs := #[.int .u8 m]) (t := 5) (fr := (0, 0)) (heap_alloc_new wr _)
      have HNEWS := Lib.hid hnews
      clear hnews
      go_wp2_with (with_reducible refine wpList_append_lies _ rfl (.tmp 10) (.tmp 12) 22 rfl B 5 i0 (.int .u8 0) 1 1 Tryz.underlying22 hi0 hz0 hz1 hz2 rfl (by decide) _ (n + t) _ rfl (HO.out.alloc _) ⟨wr.heap.size, 0, none⟩ 1 1 [.int .u8 m] rfl rfl HNEWS.out ?c1 (by decide) ?c2 ?c3 ?c4 (wr.heap.size + 1) (by simp) ?_)
      case c1 => simp [Value.oneCell']
      case c2 => unfold maxLen; omega
      case c3 => omega
      case c4 => simp; omega
      intro g cap w4 ho4 hg4 hat4 hlt4
      have ho5 : w4.ownsRow B 5 1 (.slice (some ⟨g, 0, none⟩) (n + t + 1) cap) (n + (t + 1)) (xs ++ List.replicate (t + 1) (.int .u8 m)) := by
        rw [List.replicate_succ']; exact ho4
      have hon5 : OnlyP (fun b => v.ownBlock = some b) w w4 := (HON.out.alloc _).grown hg4 (fun g' hg' => HAT.out g' hg')
      have hat5 : ∀ g', (Value.slice (some ⟨g, 0, none⟩) (n + t + 1) cap).ownBlock = some g' → v.ownBlock = some g' ∨ w.heap.size ≤ g' := fun g' hg' => by
        simp only [Value.ownBlock, Option.some.injEq] at hg'
        subst hg'
        rcases hat4 with h | h
        · exact HAT.out g h
        · exact .inr (by omega)
      have HO5 := Lib.hid ho5
      have HON5 := Lib.hid hon5
      have HAT5 := Lib.hid hat5
      clear ho4 hg4 hat4 hlt4 ho5 hon5 hat5 HNEWS
      go_wp2_with fail
      go_roundw
      case rel => first | exact ⟨t + 1, by omega, by go_num, HO5.out, HON5.out, HAT5.out⟩ | ((repeat apply Exists.intro); exact ⟨⟨t + 1, by omega, by go_num, HO5.out, HON5.out, HAT5.out⟩, rfl⟩)
      case measure => simp [intOf] <;> omega
    · obtain rfl : t = 90 := by omega
      have hF1 : ∀ u, wr.ownsRow B 5 1 u (n + 90) (xs ++ List.replicate 90 (.int .u8 m)) → (∀ g, u.ownBlock = some g → v.ownBlock = some g ∨ w.heap.size ≤ g) → Q (.returned u) wr := fun u h1 h2 => by rw [EQ.out]; exact ⟨u, rfl, h1, HON.out, h2⟩
      have hF := Lib.hid (hF1 _ HO.out HAT.out)
      clear hF1
      go_wp2_with fail
      first | exact hF.out | (go_ret; exact hF.out)
end Go.Proofs.YtigfcoibbmndpaaGreat
/- The book: Book.bytes while lists are marked at once. -/
namespace Go.Proofs.YtigfcoibbmndpaaGreat
open Go.RowKit
open Go.ChangeMaps
set_option linter.unusedVariables false
set_option linter.unusedSimpArgs false
/-- The book's values. -/
structure BkV where
  vB : Value
  vI : Value
  vE : Value
  vM : Value
  nx : Int
  lt : Bool
  vR : Value
  vW : Value
  vN : Value
  vS : Value
def pArr (d r : Nat) (fl : Bool) (k : BkV) : Array Value := #[.pointer (some ⟨d, 0, none⟩), .pointer (some ⟨r, 0, none⟩), .bool fl, k.vB, k.vI, k.vE, k.vM, .int .i64 k.nx, .bool k.lt, k.vR, k.vW, k.vN, k.vS]
theorem own_set {w : World} {B : Nat} {e : TypeId} {n cap g i : Nat} {xs : List Value} (h : w.ownsRow B e 1 (.slice (some ⟨g, 0, none⟩) n cap) n xs) (u : Value) : (w.setCell ⟨g, i, none⟩ u).ownsRow B e 1 (.slice (some ⟨g, 0, none⟩) n cap) n (xs.set i u) := by
  refine ⟨by rw [List.length_set]; exact h.1, ?_⟩
  rcases h.2 with ⟨h0, _⟩ | ⟨g', cap', cur, hv, h1, h2, h3, h4, h5, h6⟩
  · cases h0
  · simp only [Value.slice.injEq, Option.some.injEq, Addr.mk.injEq] at hv
    obtain ⟨⟨rfl, _⟩, _, rfl⟩ := hv
    have hb : Blk w g e cur := h2
    exact .inr ⟨g, cap, cur.setIfInBounds i u, rfl, h1, hb.set i u, h3, h4, by simpa using h5, by rw [Array.toList_setIfInBounds, List.take_set, h6]⟩
theorem marks_set (xs : List Value) (u : Value) (i : Nat) (h : i < xs.length) : (List.replicate i u ++ xs.drop i).set i u = List.replicate (i + 1) u ++ xs.drop (i + 1) := by
  rw [List.set_append_right _ _ (by simp), List.length_replicate, Nat.sub_self, List.drop_eq_getElem_cons h, List.set_cons_zero, List.replicate_succ']
  simp
/-- What Book.bytes has done. -/
def BBQ (w : World) (q d r : Nat) (fl : Bool) (k : BkV) (nB : Nat) (v : Value) (e : Ending) (w' : World) : Prop :=
  ∃ vB' Vs' y, e = .returned (.tuple #[]) ∧ Blk w' q 37 (pArr d r fl { k with vB := vB', nx := y }) ∧ w'.ownsRow 0 22 1 vB' (nB + 2) Vs' ∧
    OnlyP (fun b => b = q ∨ k.vB.ownBlock = some b ∨ v.ownBlock = some b) w w' ∧ (∀ g, vB'.ownBlock = some g → k.vB.ownBlock = some g ∨ w.heap.size ≤ g)
set_option maxHeartbeats 8000000 in
set_option maxRecDepth 100000 in
theorem bbytes_ok (w : World) (q d r : Nat) (fl : Bool) (k : BkV) (nB : Nat) (Vs : List Value) (v : Value) (n : Nat) (xs : List Value) (hq : Blk w q 37 (pArr d r fl k)) (hk : k.lt = false) (hB : w.ownsRow 0 22 1 k.vB nB Vs) (hv : w.ownsRow 0 5 1 v n xs)
    (hn : n ≤ 140737488351000) (hnB : (nB + 2) * 24 ≤ 140737488355328) :
    Calls Tryz.prog 34 #[.pointer (some ⟨q, 3, none⟩), v] w (BBQ w q d r fl k nB v) := by
  obtain ⟨Q, eQ⟩ : ∃ Q, Q = BBQ w q d r fl k nB v := ⟨_, rfl⟩
  rw [← eQ]
  have EQ := Lib.hid eQ
  obtain ⟨A, cp, rfl⟩ := own1_form hv
  have c8 : w.cell? ⟨q, 8, none⟩ = some (.bool false) := by rw [← hk]; exact hq.cell 8
  have c7 : w.cell? ⟨q, 7, none⟩ = some (.int .i64 k.nx) := hq.cell 7
  have f7 := hq.free 7
  obtain ⟨nx, enx⟩ : ∃ nx, nx = k.nx := ⟨_, rfl⟩
  rw [← enx] at c7
  obtain ⟨y, ey⟩ : ∃ y, y = IntKind.i64.wrap (nx + 1) := ⟨_, rfl⟩
  have y1 : IntKind.i64.wrap (nx + 1) = y := ey.symm
  have hq2 : Blk (w.setCell ⟨q, 7, none⟩ (.int .i64 y)) q 37 (pArr d r fl { k with nx := y }) := hq.set 7 _
  have hB2 : (w.setCell ⟨q, 7, none⟩ (.int .i64 y)).ownsRow 0 22 1 k.vB nB Vs := own_keep2 hB (fun g hg => Below.heap_setCell w ⟨q, 7, none⟩ _ g (fun e => by
    subst e; exact hq.ne_ownN hB (by decide) hg.symm))
  have hv2 : (w.setCell ⟨q, 7, none⟩ (.int .i64 y)).ownsRow 0 5 1 (.slice A n cp) n xs := own_keep2 hv (fun g hg => Below.heap_setCell w ⟨q, 7, none⟩ _ g (fun e => by
    subst e; exact hq.ne_ownN hv (by decide) hg.symm))
  have ho2 : OnlyP (fun b => b = q ∨ k.vB.ownBlock = some b ∨ (Value.slice A n cp).ownBlock = some b) w (w.setCell ⟨q, 7, none⟩ (.int .i64 y)) := (OnlyP.refl _ _).set (p := ⟨q, 7, none⟩) (.inl (.inl rfl)) _
  have hz2 : (w.setCell ⟨q, 7, none⟩ (.int .i64 y)).heap.size = w.heap.size := size_setCell _ _ _
  have HQ2 := Lib.hid hq2
  have HB2 := Lib.hid hB2
  have HV2 := Lib.hid hv2
  have HO2 := Lib.hid ho2
  have HZ2 := Lib.hid hz2
  have HQL := Lib.hid hq.lt
  clear eQ hq hk hB hv hq2 hB2 hv2 ho2 hz2 ey enx
  go_enter Tryz.func34, Tryz.ntmps34
  go_upto_region 4 with (fail)
  obtain ⟨m, em⟩ : ∃ m, m = wrap64 (1 + nx.tmod 250) % 256 := ⟨_, rfl⟩
  rw [← em]
  clear em
  go_upto_region 5 with (fail)
  obtain ⟨w2, e2⟩ : ∃ w2, w2 = w.setCell ⟨q, 7, none⟩ (.int .i64 y) := ⟨_, rfl⟩
  rw [← e2] at HQ2 HB2 HV2 HO2 HZ2 ⊢
  clear e2 c8 c7 f7 y1
  go_wp2_with fail
  go_loopw [5] (fun b wr => ∃ i : Nat, i ≤ n ∧ b = .int .i64 i ∧ wr.ownsRow 0 5 1 (.slice A n cp) n (List.replicate i (.int .u8 m) ++ xs.drop i) ∧ OnlyP (fun b => (Value.slice A n cp).ownBlock = some b) w2 wr ∧ wr.heap.size = w2.heap.size) (fun b _ => n - (intOf b).toNat)
  case atStart => exact ⟨0, Nat.zero_le _, rfl, by simpa using HV2.out, OnlyP.refl _ _, rfl⟩
  case round =>
    obtain ⟨i, hi, rfl, hv, hon, hz⟩ := hrel
    by_cases hlt : i < n
    · obtain ⟨g, cap, ev, _, hgl, hnc, ⟨cur, hcur⟩, hcells⟩ := own_cells hv (by omega)
      simp only [Value.slice.injEq] at ev
      obtain ⟨rfl, _, rfl⟩ := ev
      have hxl : xs.length = n := by have := HV2.out.1; omega
      have hs := own_set (i := i) hv (.int .u8 m)
      rw [marks_set xs _ i (by omega)] at hs
      have fz := hcur.free i
      obtain ⟨u, hu⟩ : ∃ u, (List.replicate i (Value.int .u8 m) ++ xs.drop i)[i]? = some u := ⟨_, List.getElem?_eq_getElem (by have := hv.1; omega)⟩
      have cz : wr.cell? ⟨g, i, none⟩ = some u := (hcells i hlt).trans hu
      have hon2 : OnlyP (fun b => (Value.slice (some ⟨g, 0, none⟩) n cp).ownBlock = some b) w2 (wr.setCell ⟨g, i, none⟩ (.int .u8 m)) := hon.set (p := ⟨g, i, none⟩) (.inl rfl) _
      have hz2 : (wr.setCell ⟨g, i, none⟩ (.int .u8 m)).heap.size = w2.heap.size := by rw [size_setCell]; exact hz
      have HS := Lib.hid hs
      have HON2 := Lib.hid hon2
      have HZ3 := Lib.hid hz2
      clear hv hon hz hs hon2 hz2 hu hcells hcur hxl
      go_wp2_with fail
      go_roundw
      case rel => exact ⟨i + 1, by omega, by go_num, HS.out, HON2.out, HZ3.out⟩
      case measure => simp [intOf] <;> omega
    · obtain rfl : i = n := by omega
      have hxl : xs.length = i := by have := HV2.out.1; omega
      rw [List.drop_of_length_le (by omega), List.append_nil] at hv
      have far : ∀ b, b < w2.heap.size → (Value.slice A i cp).ownBlock ≠ some b → wr.heap[b]? = w2.heap[b]? := fun b hb hne => hon.block b hb hne
      have hql : q < w2.heap.size := by rw [HZ2.out]; exact HQL.out
      have hqr : Blk wr q 37 (pArr d r fl { k with nx := y }) := (far q hql (fun e => HQ2.out.ne_ownN HV2.out (by decide) e.symm)).trans HQ2.out
      have hBr : wr.ownsRow 0 22 1 k.vB nB Vs := own_keep2 HB2.out (fun g hg => far g (HB2.out.lt g hg).2 (fun e => by
        obtain ⟨cur, hc⟩ := own_blockN HB2.out g hg
        exact hc.ne_ownN HV2.out (by decide) e.symm))
      have honr : OnlyP (fun b => b = q ∨ k.vB.ownBlock = some b ∨ (Value.slice A i cp).ownBlock = some b) w wr := HO2.out.then (hon.mono (fun b hb => .inr (.inr hb)))
      have hgr := grown_ok wr.drew 0 (.slice A i cp) i _ m (own1_below hv (⟨rfl, rfl, rfl, Nat.le_refl _, fun _ _ => rfl⟩ : Below wr.heap.size wr wr.drew)) (Nat.zero_le _) hn
      obtain ⟨AB, cB, hvB⟩ := own1_form hBr
      have c3 : wr.cell? ⟨q, 3, none⟩ = some (.slice AB nB cB) := by rw [← hvB]; exact hqr.cell 3
      have HVB := Lib.hid hvB
      have HQR := Lib.hid hqr
      have HBR := Lib.hid hBr
      have HVR := Lib.hid hv
      have HONR := Lib.hid honr
      have HGR := Lib.hid hgr
      have HZR := Lib.hid hz
      clear hv hon hz far hql hqr hBr honr hgr hvB hxl HQ2 HB2 HV2 HO2
      obtain ⟨i0, hi0, hz0, hz1, hz2⟩ := info_parts info_sl
      have hqlr : q < wr.heap.size := HQR.out.lt
      have hg3 : ∀ e w3, GrownQ wr.drew 0 (.slice A i cp) i (List.replicate i (.int .u8 m)) m e w3 → ∃ Ag cg, e = .returned (.slice Ag (i + 90) cg) ∧ Hid (w3.ownsRow 0 5 1 (.slice Ag (i + 90) cg) (i + 90) (List.replicate (i + 90) (.int .u8 m)) ∧ OnlyP (fun b => (Value.slice A i cp).ownBlock = some b) wr w3 ∧ (∀ g, (Value.slice Ag (i + 90) cg).ownBlock = some g → (Value.slice A i cp).ownBlock = some g ∨ wr.heap.size ≤ g)) ∧ Hid (Blk w3 q 37 (pArr d r fl { k with nx := y })) ∧ Hid (w3.ownsRow 0 22 1 k.vB nB Vs) ∧
          w3.cell? ⟨q, 3, none⟩ = some (.slice AB nB cB) ∧ (w3.alloc (.cells #[.slice Ag (i + 90) cg] 22)).cell? ⟨q, 3, none⟩ = some (.slice AB nB cB) := by
        rintro e w3 ⟨vg, rfl, hog, hong, hatg⟩
        obtain ⟨Ag, cg, rfl⟩ := own1_form hog
        have hong' : OnlyP (fun b => (Value.slice A i cp).ownBlock = some b) wr w3 := ⟨hong.os, hong.tape, hong.output, hong.size, hong.block⟩
        have hq3 : Blk w3 q 37 (pArr d r fl { k with nx := y }) := (hong'.block q hqlr (fun e => HQR.out.ne_ownN HVR.out (by decide) e.symm)).trans HQR.out
        have hb3 : w3.ownsRow 0 22 1 k.vB nB Vs := own_keep2 HBR.out (fun g hg => hong'.block g (HBR.out.lt g hg).2 (fun e => by
          obtain ⟨cur, hc⟩ := own_blockN HBR.out g hg
          exact hc.ne_ownN HVR.out (by decide) e.symm))
        refine ⟨Ag, cg, rfl, Lib.hid ⟨?_, hong', hatg⟩, Lib.hid hq3, Lib.hid hb3, by rw [← HVB.out]; exact hq3.cell 3, by rw [← HVB.out]; exact (hq3.alloc _).cell 3⟩
        rw [List.replicate_append_replicate] at hog; exact hog
      have hg4 : ∀ w3 Ag cg, Hid (Blk w3 q 37 (pArr d r fl { k with nx := y })) → Hid (w3.ownsRow 0 22 1 k.vB nB Vs) → ∀ w4, (w3.alloc (.cells #[.slice Ag (i + 90) cg] 22)).grownBy w4 (Value.slice AB nB cB).ownBlock → Hid (Blk w4 q 37 (pArr d r fl { k with nx := y })) ∧ w4.cell? ⟨q, 3, none⟩ = some (.slice AB nB cB) ∧ w4.frozen? ⟨q, 3, none⟩ = false := by
        intro w3 Ag cg hq3 hb3 w4 hg4
        have hq4 : Blk w4 q 37 (pArr d r fl { k with nx := y }) := (hg4.block q (by have := hq3.out.lt; simp; omega) (by rw [← HVB.out]; exact hq3.out.ne_ownN hb3.out (by decide))).trans (hq3.out.alloc _)
        exact ⟨Lib.hid hq4, by rw [← HVB.out]; exact hq4.cell 3, hq4.free 3⟩
      have HG3 := Lib.hid hg3
      have HG4 := Lib.hid hg4
      clear hg3 hg4
      go_wp2_with fail
      go_region_law (first
          | (go_simp; go_at_call 73; refine HGR.out.mono ?_; intro e w3 hq3; obtain ⟨Ag, cg, rfl, HO3, HQ3, HB3, k2, k3⟩ := HG3.out e w3 hq3; clear hq3)
          | (refine step_append_lies _ rfl (.tmp 60) (.tmp 64) 30 rfl 0 22 i0 _ 1 24 Tryz.underlying30 hi0 hz0 hz1 hz2 rfl (by omega) (.slice AB nB cB) nB Vs rfl (by (rw [← HVB.out]; exact HB3.out.alloc _)) ⟨w3.heap.size, 0, none⟩ 1 1 [.slice Ag (i + 90) cg] rfl rfl (World.news_of_block (cs := #[.slice Ag (i + 90) cg]) (t := 22) (fr := (0, 0)) (heap_alloc_new w3 _)) (by simp [Value.oneCell']) (by omega) (by unfold maxLen; omega) (by omega) (by omega) (w3.heap.size + 1) (by simp) ?_; intro g cap w4 ho4 hg4 hat hlt4; obtain ⟨HQ4, k4, f4⟩ := HG4.out w3 Ag cg HQ3 HB3 w4 ⟨hg4.os, hg4.tape, hg4.output, hg4.size, hg4.block⟩; have HO4 := Lib.hid ho4; have HG5 := Lib.hid hg4; have HAT := Lib.hid hat; clear ho4 hg4 hat hlt4))
      all_goals
        obtain ⟨hog, hong, hatg⟩ := HO3.out
        have hzz : wr.heap.size ≤ w3.heap.size := hong.size
        have hon4 : OnlyP (fun b => b = q ∨ k.vB.ownBlock = some b ∨ (Value.slice A i cp).ownBlock = some b) wr w4 :=
          ((hong.mono (fun b hb => .inr (.inr hb))).alloc _).grown (w2 := w4) (show (w3.alloc (.cells #[.slice Ag (i + 90) cg] 22)).grownBy w4 (Value.slice AB nB cB).ownBlock from ⟨HG5.out.os, HG5.out.tape, HG5.out.output, HG5.out.size, HG5.out.block⟩) (fun g hg => .inl (.inr (.inl (by rw [HVB.out]; exact hg))))
        have hq5 := HQ4.out.set 3 (.slice (some ⟨g, 0, none⟩) (nB + 1) cap)
        have hb5 : (w4.setCell ⟨q, 3, none⟩ (.slice (some ⟨g, 0, none⟩) (nB + 1) cap)).ownsRow 0 22 1 (.slice (some ⟨g, 0, none⟩) (nB + 1) cap) (nB + 1) _ := own_keep2 HO4.out (fun g' hg' => Below.heap_setCell w4 ⟨q, 3, none⟩ _ g' (fun e => by
          subst e; exact HQ4.out.ne_ownN HO4.out (by decide) hg'.symm))
        have hon5 : OnlyP (fun b => b = q ∨ k.vB.ownBlock = some b ∨ (Value.slice A i cp).ownBlock = some b) w (w4.setCell ⟨q, 3, none⟩ (.slice (some ⟨g, 0, none⟩) (nB + 1) cap)) := (HONR.out.then hon4).set (p := ⟨q, 3, none⟩) (.inl (.inl rfl)) _
        have hat5 : k.vB.ownBlock = some g ∨ w.heap.size ≤ g := by
          rcases HAT.out with h | h
          · exact .inl (by rw [HVB.out]; exact h)
          · exact .inr (by rw [h]; have := HONR.out.size; omega)
        obtain ⟨w5, e5⟩ : ∃ w5, w5 = w4.setCell ⟨q, 3, none⟩ (.slice (some ⟨g, 0, none⟩) (nB + 1) cap) := ⟨_, rfl⟩
        rw [← e5] at hq5 hb5 hon5 ⊢
        have hq5' : Blk w5 q 37 (pArr d r fl { k with vB := .slice (some ⟨g, 0, none⟩) (nB + 1) cap, nx := y }) := hq5
        have c3 : w5.cell? ⟨q, 3, none⟩ = some (.slice (some ⟨g, 0, none⟩) (nB + 1) cap) := hq5'.cell 3
        have hql5 := hq5'.lt
        have HQ5 := Lib.hid hq5'
        have HB5 := Lib.hid hb5
        have HON5 := Lib.hid hon5
        have HAT5 := Lib.hid hat5
        clear hog hong hatg hzz hon4 hq5 hb5 hon5 hat5 hq5' e5 HO3 HQ3 HB3 HQ4 HO4 HG5 HAT k2 k3 k4 f4
        have hnews : ∀ j u, ([Value.slice A i cp])[j]? = some u → (w5.alloc (.cells #[.slice A i cp] 22)).cell? ((⟨w5.heap.size, 0, none⟩ : Addr).add j) = some u := World.news_of_block (cs := #[.slice A i cp]) (t := 22) (fr := (0, 0)) (heap_alloc_new w5 _)
        have HNEWS := Lib.hid hnews
        clear hnews
        go_wp2_with (with_reducible refine wpList_append_lies _ rfl (.tmp 72) (.tmp 74) 30 rfl 0 22 i0 (.slice none 0 0) 1 24 Tryz.underlying30 hi0 hz0 hz1 hz2 rfl (by decide) _ (nB + 1) _ rfl (HB5.out.alloc _) ⟨w5.heap.size, 0, none⟩ 1 1 [.slice A i cp] rfl rfl HNEWS.out ?c1 (by decide) ?c2 ?c3 ?c4 (w5.heap.size + 1) (by simp) ?_)
        case c1 => simp [Value.oneCell']
        case c2 => unfold maxLen; omega
        case c3 => omega
        case c4 => simp
        intro g9 cap9 w9 ho9 hg9 hat9 hlt9
        have hq9 : Blk w9 q 37 (pArr d r fl { k with vB := .slice (some ⟨g, 0, none⟩) (nB + 1) cap, nx := y }) := (hg9.block q (by simp; omega) (HQ5.out.ne_ownN HB5.out (by decide))).trans (HQ5.out.alloc _)
        have c9 : w9.cell? ⟨q, 3, none⟩ = some (.slice (some ⟨g, 0, none⟩) (nB + 1) cap) := hq9.cell 3
        have f9 := hq9.free 3
        have hF : Q (.returned (.tuple #[])) (w9.setCell ⟨q, 3, none⟩ (.slice (some ⟨g9, 0, none⟩) (nB + 1 + 1) cap9)) := by
          rw [EQ.out]
          refine ⟨_, _, y, rfl, hq9.set 3 (.slice (some ⟨g9, 0, none⟩) (nB + 1 + 1) cap9), own_keep2 ho9 (fun g' hg' => Below.heap_setCell w9 ⟨q, 3, none⟩ _ g' (fun e => by
            subst e; exact hq9.ne_ownN ho9 (by decide) hg'.symm)), ?_, fun g' hg' => ?_⟩
          · exact ((HON5.out.alloc _).grown hg9 (fun g' hg' => by
              simp only [Value.ownBlock, Option.some.injEq] at hg'
              subst hg'
              rcases HAT5.out with h | h
              · exact .inl (.inr (.inl h))
              · exact .inr h)).set (p := ⟨q, 3, none⟩) (.inl (.inl rfl)) _
          · simp only [Value.ownBlock, Option.some.injEq] at hg'
            subst hg'
            rcases hat9 with h | h
            · simp only [Value.ownBlock, Option.some.injEq] at h
              subst h; exact HAT5.out
            · exact .inr (by rw [h]; have := HON5.out.size; omega)
        have HF := Lib.hid hF
        clear hF hq9 ho9 hg9 hat9 hlt9 c3
        go_wp2_with fail
        first | exact HF.out | (go_end0; exact HF.out)
end Go.Proofs.YtigfcoibbmndpaaGreat
/- The pair of disks in the world. -/
namespace Go.Proofs.YtigfcoibbmndpaaGreat
open Go.RowKit
open Go.ChangeMaps
set_option linter.unusedVariables false
set_option linter.unusedSimpArgs false
structure OpV where
  kind : Int
  blk : Int
  cnt : Int
  dv : Value
  data : List Int
def OpV.agg (o : OpV) : Value := .agg #[.int .i64 o.kind, .int .i64 o.blk, .int .i64 o.cnt, o.dv]
theorem fuseS_wf {s : DSt} (h : DWf s) (n : Int) (hn : n < 9223372036854775808) : DWf (fuseS s n) :=
  ⟨h.nb1, h.nb2, h.sz0, h.sz1, h.dl, h.cl, h.cn, by show 0 ≤ max n 0; omega, by show max n 0 < _; omega⟩
theorem fuse_ok (O : Nat → Prop) (w : World) (d : Nat) (s : DSt) (n : Int) (h : DRep O w d s) (hn : n < 9223372036854775808) :
    Calls Tryz.prog 62 #[.pointer (some ⟨d, 0, none⟩), .int .i64 n] w (DoneQ O w d (fuseS s n)) := by
  obtain ⟨m, c, B, ms, mc, F, G, hx, hO, hl⟩ := h
  refine (fuse_blk w d m c s n hx.blk).mono ?_
  rintro e w' ⟨rfl, ho, hb'⟩
  exact ⟨rfl, (ho.cellsX hx hb' (fuseS_wf hx.wf n hn) rfl rfl rfl rfl rfl).rep hO hl (ho.only (hO d (.inl rfl))) (fun b hb => .inl hb)⟩
theorem i64_rng {j : Int} (h : I64 j) : -9223372036854775808 ≤ j ∧ j ≤ 9223372036854775807 := by
  unfold I64 at h
  simp only [Lit.wf, Bool.and_eq_true, decide_eq_true_eq] at h
  exact h
theorem i64_lt {j : Int} (h : I64 j) : j < 9223372036854775808 := by
  obtain ⟨_, h2⟩ := i64_rng h
  omega
/-- The program's disk (in state s), the document's (in state t), the book: X, the blocks that are their own. -/
structure PairA (X : Nat → Prop) (w : World) (q d : Nat) (s : DSt) (O : Nat → Prop) (r : Nat) (t : DSt) (P : Nat → Prop) (wh : Int) (n : Nat) (k : BkV) (nB : Nat) : Prop where
  blk : Blk w q 37 (pArr d r false k)
  lt : k.lt = false
  dd : DRep O w d s
  rr : RRep P w r t wh n
  row : ∃ Vs, w.ownsRow 0 22 1 k.vB nB Vs
  hnB : nB ≤ n
  hO : ∀ b, O b → X b
  hP : ∀ b, P b → X b
  hq : X q
  hrow : ∀ g, k.vB.ownBlock = some g → X g
  lts : ∀ b, X b → b < w.heap.size
  oP : ∀ b, O b → ¬ P b
  oq : ¬ O q ∧ ¬ P q
  orow : ∀ g, k.vB.ownBlock = some g → ¬ O g ∧ ¬ P g ∧ g ≠ q
structure Mid (X : Nat → Prop) (w wc : World) (q d : Nat) (s : DSt) (O : Nat → Prop) (r : Nat) (t : DSt) (P : Nat → Prop) (wh : Int) (n : Nat) (k : BkV) (nB : Nat) : Prop where
  only : OnlyP X w wc
  at' : ∃ X1, PairA X1 wc q d s O r t P wh n k nB ∧ ∀ b, X1 b → X b ∨ w.heap.size ≤ b
def PairR (X : Nat → Prop) (w : World) (q n : Nat) : Prop := ∃ d s O r P wh k nB, PairA X w q d s O r s P wh n k nB
def StepQ (X : Nat → Prop) (w : World) (q n : Nat) (e : Ending) (w' : World) : Prop :=
  e = .returned (.bool true) ∧ OnlyP X w w' ∧ ∃ X', PairR X' w' q n ∧ ∀ b, X' b → X b ∨ w.heap.size ≤ b
section
variable {X O P : Nat → Prop} {w wc w2 : World} {q d r n nB : Nat} {s t : DSt} {wh : Int} {k : BkV}
theorem PairA.start (h : PairA X w q d s O r t P wh n k nB) : Mid X w w q d s O r t P wh n k nB := ⟨OnlyP.refl _ _, X, h, fun b hb => .inl hb⟩
theorem Mid.qb (h : Mid X w wc q d s O r t P wh n k nB) : Blk wc q 37 (pArr d r false k) := let ⟨_, _, h, _⟩ := h; h.blk
theorem Mid.db (h : Mid X w wc q d s O r t P wh n k nB) : DRep O wc d s := let ⟨_, _, h, _⟩ := h; h.dd
theorem Mid.rb (h : Mid X w wc q d s O r t P wh n k nB) : RRep P wc r t wh n := let ⟨_, _, h, _⟩ := h; h.rr
theorem Mid.keep (h : Mid X w wc q d s O r t P wh n k nB) (hb : Below wc.heap.size wc w2) : Mid X w w2 q d s O r t P wh n k nB := by
  obtain ⟨ho, X1, ha, hX⟩ := h
  refine ⟨ho.trans (OnlyP.ofBelow hb |>.mono (O1 := fun _ => False) (fun x hx => hx)) (fun k hk => hk.elim), X1, ?_, hX⟩
  obtain ⟨Vs, hrow⟩ := ha.row
  exact ⟨ha.blk.below hb ha.blk.lt, ha.lt, ha.dd.below hb, ha.rr.below hb, ⟨Vs, own1_below hrow hb⟩, ha.hnB, ha.hO, ha.hP, ha.hq, ha.hrow, fun b hb' => Nat.lt_of_lt_of_le (ha.lts b hb') hb.size, ha.oP, ha.oq, ha.orow⟩
theorem Mid.drewN (h : Mid X w wc q d s O r t P wh n k nB) (m : Nat) : Mid X w (wc.drewN m) q d s O r t P wh n k nB := h.keep ⟨rfl, rfl, rfl, Nat.le_refl _, fun _ _ => rfl⟩
theorem Mid.alloc (h : Mid X w wc q d s O r t P wh n k nB) (o : Obj) : Mid X w (wc.alloc o) q d s O r t P wh n k nB := h.keep ((Below.refl _ _).alloc (Nat.le_refl _) _)
theorem Mid.dstep (h : Mid X w wc q d s O r t P wh n k nB) {s2 : DSt} (hs : DStep O wc w2 d s2) : ∃ O2, Mid X w w2 q d s2 O2 r t P wh n k nB := by
  obtain ⟨ho, X1, ha, hX⟩ := h
  obtain ⟨h1, O2, h2, h3⟩ := hs
  obtain ⟨Vs, hrow⟩ := ha.row
  have hsz := ho.size
  have h1s := h1.size
  refine ⟨O2, ho.trans h1 (fun b hb => hX b (ha.hO b hb)), fun b => (X1 b ∨ wc.heap.size ≤ b) ∧ b < w2.heap.size, ⟨?_, ha.lt, h2, ?_, ⟨Vs, ?_⟩, ha.hnB, fun b hb => ⟨(h3 b hb).imp (ha.hO b) id, h2.lt hb⟩, fun b hb => ⟨.inl (ha.hP b hb), by have := ha.lts b (ha.hP b hb); omega⟩, ⟨.inl ha.hq, by have := ha.lts q ha.hq; omega⟩, fun g hg => ⟨.inl (ha.hrow g hg), by have := ha.lts g (ha.hrow g hg); omega⟩, fun b hb => hb.2, ?_, ⟨?_, ha.oq.2⟩, ?_⟩, ?_⟩
  · exact (h1.block q (ha.lts q ha.hq) ha.oq.1).trans ha.blk
  · exact ha.rr.keep (fun b hb => h1.block b (ha.rr.lt hb) (fun hO => ha.oP b hO hb)) h1s
  · exact own_keep2 hrow (fun g hg => h1.block g (hrow.lt g hg).2 (ha.orow g hg).1)
  · intro b hb hp
    rcases h3 b hb with h | h
    · exact ha.oP b h hp
    · have := ha.rr.lt hp; omega
  · intro hb
    rcases h3 q hb with h | h
    · exact ha.oq.1 h
    · have := ha.lts q ha.hq; omega
  · intro g hg
    refine ⟨fun hb => ?_, (ha.orow g hg).2.1, (ha.orow g hg).2.2⟩
    rcases h3 g hb with h | h
    · exact (ha.orow g hg).1 h
    · have := ha.lts g (ha.hrow g hg); omega
  · rintro b ⟨hb | hb, _⟩
    · exact hX b hb
    · exact .inr (by omega)
theorem Mid.rstep (h : Mid X w wc q d s O r t P wh n k nB) {t2 : DSt} {wh2 : Int} {n2 : Nat} (hn : n ≤ n2) (hs : RStep P wc w2 r t2 wh2 n2) : ∃ P2, Mid X w w2 q d s O r t2 P2 wh2 n2 k nB := by
  obtain ⟨ho, X1, ha, hX⟩ := h
  obtain ⟨h1, P2, h2, h3⟩ := hs
  obtain ⟨Vs, hrow⟩ := ha.row
  have hsz := ho.size
  have h1s := h1.size
  refine ⟨P2, ho.trans h1 (fun b hb => hX b (ha.hP b hb)), fun b => (X1 b ∨ wc.heap.size ≤ b) ∧ b < w2.heap.size, ⟨?_, ha.lt, ?_, h2, ⟨Vs, ?_⟩, Nat.le_trans ha.hnB hn, fun b hb => ⟨.inl (ha.hO b hb), by have := ha.lts b (ha.hO b hb); omega⟩, fun b hb => ⟨(h3 b hb).imp (ha.hP b) id, h2.lt hb⟩, ⟨.inl ha.hq, by have := ha.lts q ha.hq; omega⟩, fun g hg => ⟨.inl (ha.hrow g hg), by have := ha.lts g (ha.hrow g hg); omega⟩, fun b hb => hb.2, ?_, ⟨ha.oq.1, ?_⟩, ?_⟩, ?_⟩
  · exact (h1.block q (ha.lts q ha.hq) ha.oq.2).trans ha.blk
  · exact ha.dd.keep (fun b hb => h1.block b (ha.dd.lt hb) (fun hP => ha.oP b hb hP)) h1s
  · exact own_keep2 hrow (fun g hg => h1.block g (hrow.lt g hg).2 (ha.orow g hg).2.1)
  · intro b hb hp
    rcases h3 b hp with h | h
    · exact ha.oP b hb h
    · have := ha.dd.lt hb; omega
  · intro hb
    rcases h3 q hb with h | h
    · exact ha.oq.2 h
    · have := ha.lts q ha.hq; omega
  · intro g hg
    refine ⟨(ha.orow g hg).1, fun hb => ?_, (ha.orow g hg).2.2⟩
    rcases h3 g hb with h | h
    · exact (ha.orow g hg).2.1 h
    · have := ha.lts g (ha.hrow g hg); omega
  · rintro b ⟨hb | hb, _⟩
    · exact hX b hb
    · exact .inr (by omega)
theorem Mid.fin (h : Mid X w wc q d s O r s P wh n k nB) {n2 : Nat} (hn : n ≤ n2) : StepQ X w q n2 (.returned (.bool true)) wc := by
  obtain ⟨ho, X1, ha, hX⟩ := h
  exact ⟨rfl, ho, X1, ⟨d, s, O, r, P, wh, k, nB, ⟨ha.blk, ha.lt, ha.dd, ha.rr.up hn, ha.row, Nat.le_trans ha.hnB hn, ha.hO, ha.hP, ha.hq, ha.hrow, ha.lts, ha.oP, ha.oq, ha.orow⟩⟩, hX⟩
/-- A list that was handed in, new, is written full. -/
theorem Mid.book (h : Mid X w wc q d s O r t P wh n k nB) {v : Value} {e : Ending} (hn : nB + 2 ≤ n) (hv : ∀ g, v.ownBlock = some g → w.heap.size ≤ g ∧ ¬ O g ∧ ¬ P g ∧ ¬ k.vB.ownBlock = some g ∧ g ≠ q) (hb : BBQ wc q d r false k nB v e w2) :
    e = .returned (.tuple #[]) ∧ ∃ k2, Mid X w w2 q d s O r t P wh n k2 (nB + 2) := by
  obtain ⟨ho, X1, ha, hX⟩ := h
  obtain ⟨vB', Vs', y, rfl, h1, h2, h3, h4⟩ := hb
  have hsz := ho.size
  have h3s := h3.size
  have hdk : ∀ b, O b → ¬ (b = q ∨ k.vB.ownBlock = some b ∨ v.ownBlock = some b) := by
    rintro b hb (rfl | h | h)
    · exact ha.oq.1 hb
    · exact (ha.orow b h).1 hb
    · exact (hv b h).2.1 hb
  have hpk : ∀ b, P b → ¬ (b = q ∨ k.vB.ownBlock = some b ∨ v.ownBlock = some b) := by
    rintro b hb (rfl | h | h)
    · exact ha.oq.2 hb
    · exact (ha.orow b h).2.1 hb
    · exact (hv b h).2.2.1 hb
  refine ⟨rfl, _, ho.trans h3 (fun b hb => ?_), fun b => (X1 b ∨ wc.heap.size ≤ b) ∧ b < w2.heap.size, ⟨h1, ha.lt, ?_, ?_, ⟨Vs', h2⟩, hn, fun b hb => ⟨.inl (ha.hO b hb), by have := ha.lts b (ha.hO b hb); omega⟩, fun b hb => ⟨.inl (ha.hP b hb), by have := ha.lts b (ha.hP b hb); omega⟩, ⟨.inl ha.hq, by have := ha.lts q ha.hq; omega⟩, fun g hg => ⟨(h4 g hg).imp (ha.hrow g) id, (h2.lt g hg).2⟩, fun b hb => hb.2, ha.oP, ha.oq, fun g hg => ?_⟩, ?_⟩
  · rcases hb with rfl | hb | hb
    · exact hX _ ha.hq
    · exact hX _ (ha.hrow b hb)
    · exact .inr (hv b hb).1
  · exact ha.dd.keep (fun b hb => h3.block b (ha.dd.lt hb) (hdk b hb)) h3s
  · exact ha.rr.keep (fun b hb => h3.block b (ha.rr.lt hb) (hpk b hb)) h3s
  · rcases h4 g hg with h | h
    · exact ha.orow g h
    · exact ⟨fun hb => by have := ha.dd.lt hb; omega, fun hb => by have := ha.rr.lt hb; omega, fun e => by have := ha.lts q ha.hq; omega⟩
  · rintro b ⟨hb | hb, _⟩
    · exact hX b hb
    · exact .inr (by omega)
end
section
variable {X O P : Nat → Prop} {w wb wc w2 : World} {q d r n nB : Nat} {s t : DSt} {wh : Int} {k : BkV}
theorem PairA.keep (ha : PairA X w q d s O r t P wh n k nB) (hb : Below w.heap.size w w2) : PairA X w2 q d s O r t P wh n k nB := by
  obtain ⟨Vs, hrow⟩ := ha.row
  exact ⟨ha.blk.below hb ha.blk.lt, ha.lt, ha.dd.below hb, ha.rr.below hb, ⟨Vs, own1_below hrow hb⟩, ha.hnB, ha.hO, ha.hP, ha.hq, ha.hrow, fun b hb' => Nat.lt_of_lt_of_le (ha.lts b hb') hb.size, ha.oP, ha.oq, ha.orow⟩
theorem Mid.cells (h : Mid X w wc q d s O r t P wh n k nB) : wc.cell? ⟨q, 0, none⟩ = some (.pointer (some ⟨d, 0, none⟩)) ∧ wc.cell? ⟨q, 1, none⟩ = some (.pointer (some ⟨r, 0, none⟩)) ∧ wc.cell? ⟨q, 2, none⟩ = some (.bool false) :=
  ⟨h.qb.cell 0, h.qb.cell 1, h.qb.cell 2⟩
theorem Mid.box (h : Mid X w wc q d s O r t P wh n k nB) {b : Nat} {T : TypeId} {cs : Array Value} (hb : Blk w b T cs) (hX : ¬ X b) : Blk wc b T cs := (h.only.block b hb.lt hX).trans hb
theorem Mid.rdN (h : Mid X w wc q d s O r t P wh n k nB) {v : Value} {xs : List Int} (hr : RdN X w v xs) : Rd .u8 wc v xs := hr.only h.only
theorem Mid.out (h : Mid X wb wc q d s O r s P wh n k nB) (hb : Below w.heap.size w wb) {n2 : Nat} (hn : n ≤ n2) : StepQ X w q n2 (.returned (.bool true)) wc := by
  obtain ⟨_, h1, X', h2, h3⟩ := h.fin hn
  refine ⟨rfl, (OnlyP.ofBelow hb).then h1, X', h2, fun b hb' => (h3 b hb').imp id (fun h => Nat.le_trans hb.size h)⟩
theorem Mid.cap (h : Mid X w wc q d s O r t P wh n k nB) (j : Nat) : (t.ca j).length ≤ n := by
  obtain ⟨Bm, Bs, cm, cs, vc, G, C, hx, _, _, hn⟩ := h.rb
  rw [hx.rel]
  unfold partC
  rw [List.length_map]
  exact Nat.le_trans (List.length_filter_le _ _) hn
end
theorem AnsE.only {O : Nat → Prop} {lo : Nat} {w w1 : World} {v : Value} {e0 j : Int} (h : AnsE lo w v e0 j) (ho : OnlyP O w w1) (hO : ∀ b, lo ≤ b → b < w.heap.size → ¬ O b) : AnsE lo w1 v e0 j := by
  rcases h with h | ⟨b, e, hb, h0, hr⟩
  · exact .inl h
  · exact .inr ⟨b, e, hb, h0, (ho.block b hr.lt (hO b hb hr.lt)).trans hr⟩
end Go.Proofs.YtigfcoibbmndpaaGreat
