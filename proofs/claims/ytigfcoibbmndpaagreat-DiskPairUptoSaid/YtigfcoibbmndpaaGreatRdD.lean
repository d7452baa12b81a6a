/- The reference's cached: the writes of a block, out of the one list. -/
import Derived.Test.YtigfcoibbmndpaaGreatRdC
import Derived.Outline
namespace Go.Proofs.YtigfcoibbmndpaaGreat
open Go.RowKit
open Go.ChangeMaps
set_option linter.unusedVariables false
set_option linter.unusedSimpArgs false
/-- The cached writes of block j, a number. -/
def partI (C : List (Nat × List Int)) (j : Int) : List (List Int) := (C.filter fun x => decide ((x.1 : Int) = j)).map Prod.snd
theorem partI_nat (C : List (Nat × List Int)) (k : Nat) : partI C k = partC C k := by
  unfold partI partC
  congr 1
  refine List.filter_congr (fun x _ => ?_)
  by_cases h : x.1 = k
  · simp [h]
  · have : ¬ ((x.1 : Int) = (k : Int)) := by omega
    simp [h, this]
theorem partI_neg (C : List (Nat × List Int)) {j : Int} (h : j < 0) : partI C j = [] := by
  unfold partI
  rw [List.filter_eq_nil_iff.2 (fun x _ => by have : ¬ ((x.1 : Int) = j) := by omega
                                              simp [this])]
  rfl
theorem partI_snoc (C : List (Nat × List Int)) (x : Nat × List Int) (j : Int) : partI (C ++ [x]) j = if (x.1 : Int) = j then partI C j ++ [x.2] else partI C j := by
  unfold partI
  rw [List.filter_append, List.map_append]
  by_cases h : (x.1 : Int) = j
  · simp [h]
  · simp [h]
theorem partI_len (C : List (Nat × List Int)) (j : Int) : (partI C j).length ≤ C.length := by unfold partI; rw [List.length_map]; exact List.length_filter_le _ _
theorem takeC_snoc (C : List (Nat × List Int)) (i : Nat) (h : i < C.length) : C.take (i + 1) = C.take i ++ [C.getD i (0, [])] := by
  rw [List.take_add_one, List.getD_eq_getElem?_getD, List.getElem?_eq_getElem h]; rfl
theorem cellsC_at (C : List (Nat × List Int)) (hs : List Nat) (sz i : Nat) (hl : hs.length = C.length) (h : i < C.length) : (cellsC C hs sz)[i * 2]? = some (.int .i64 (C.getD i (0, [])).1) ∧ (cellsC C hs sz)[i * 2 + 1]? = some (.slice (some ⟨hs.getD i 0, 0, none⟩) sz sz) := by
  induction C generalizing i hs with
  | nil => simp at h
  | cons x C ih =>
    match hs, hl with
    | b :: hs, hl =>
      have e : cellsC (x :: C) (b :: hs) sz = [.int .i64 x.1, .slice (some ⟨b, 0, none⟩) sz sz] ++ cellsC C hs sz := rfl
      rw [e]
      match i with
      | 0 => exact ⟨rfl, rfl⟩
      | i + 1 =>
        obtain ⟨h1, h2⟩ := ih hs i (by simpa using hl) (by simpa using h)
        rw [List.getD_cons_succ, List.getD_cons_succ, show (i + 1) * 2 = i * 2 + 2 by omega, show i * 2 + 2 + 1 = i * 2 + 1 + 2 by omega]
        refine ⟨?_, ?_⟩
        · rw [List.getElem?_append_right (by simp), show i * 2 + 2 - [Value.int .i64 x.1, .slice (some ⟨b, 0, none⟩) sz sz].length = i * 2 by simp]; exact h1
        · rw [List.getElem?_append_right (by simp), show i * 2 + 1 + 2 - [Value.int .i64 x.1, .slice (some ⟨b, 0, none⟩) sz sz].length = i * 2 + 1 by simp]; exact h2
theorem own2_cells {w : World} {B : Nat} {e : TypeId} {v : Value} {n : Nat} {xs : List Value} (h : w.ownsRow B e 2 v n xs) (hn : 0 < n) : ∃ g cap, v = .slice (some ⟨g, 0, none⟩) n cap ∧ g < w.heap.size ∧ ∀ j u, xs[j]? = some u → w.cell? ⟨g, j, none⟩ = some u := by
  rcases h.2 with ⟨_, h0⟩ | ⟨g, cap, cur, rfl, _, hg, _⟩
  · omega
  · refine ⟨g, cap, rfl, (Array.getElem?_eq_some_iff.1 hg).1, fun j u hj => ?_⟩
    have := h.cells (g := g) rfl j u hj
    rw [Go.WideShapes.add_plain, Nat.zero_add] at this
    exact this
theorem own2_len {w : World} {B : Nat} {e : TypeId} {v : Value} {n : Nat} {xs : List Value} (h : w.ownsRow B e 2 v n xs) : ∃ A c, v = .slice A n c := by
  rcases h.2 with ⟨h, h0⟩ | ⟨g, cap, cur, h, _⟩
  · exact ⟨none, 0, by rw [h, h0]⟩
  · exact ⟨_, _, h⟩
/-- A list of the writes of a block. -/
def ListR (G : Nat → Prop) (w : World) (B sz : Nat) (v : Value) (ls : List (List Int)) : Prop :=
  ∃ Vs, w.ownsRow B 22 1 v ls.length Vs ∧ ∀ t, t < ls.length → ∃ u, Vs[t]? = some u ∧ OwnL G w sz u (ls.getD t [])
def RcQ (G : Nat → Prop) (w : World) (sz : Nat) (ls : List (List Int)) (e : Ending) (w' : World) : Prop := ∃ v, e = .returned v ∧ ListR G w' w.heap.size sz v ls ∧ Below w.heap.size w w'
theorem info_sl : (Tryz.prog.info? 22).map (fun i => (i.zero, i.size, i.bytes)) = some (some (.slice none 0 0), 1, 24) := by kernel_rfl
theorem own1_below {w w1 : World} {B : Nat} {e : TypeId} {k : Nat} {v : Value} {n : Nat} {xs : List Value} (h : w.ownsRow B e k v n xs) (hb : Below w.heap.size w w1) : w1.ownsRow B e k v n xs := by
  refine ⟨h.1, ?_⟩
  rcases h.2 with h | ⟨g, cap, cur, rfl, a1, a2, a3⟩
  · exact .inl h
  · exact .inr ⟨g, cap, cur, rfl, a1, (hb.block g (Array.getElem?_eq_some_iff.1 a2).1).trans a2, a3⟩
theorem below_grown {w w' : World} {B C k : Nat} {e : TypeId} {v : Value} {n : Nat} {xs : List Value} (h : w.ownsRow B e k v n xs) (hg : w.grownBy w' v.ownBlock) (hC : C ≤ B) (hC2 : C ≤ w.heap.size) : Below C w w' :=
  ⟨hg.os, hg.tape, hg.output, hg.size, fun k hk => hg.block k (by omega) (fun e => by have := (h.lt k e.symm).1; omega)⟩
set_option maxHeartbeats 4000000 in
set_option maxRecDepth 100000 in
theorem rcached_ok (w : World) (r Bm Bs cm cs : Nat) (vc : Value) (G : Nat → Prop) (s : DSt) (C : List (Nat × List Int)) (wh j : Int) (h : RRepX w r Bm Bs cm cs vc G s C wh) (hC : C.length * 24 ≤ 140737488355328) :
    Calls Tryz.prog 71 #[.pointer (some ⟨r, 0, none⟩), .int .i64 j] w (RcQ G w s.sz (partI C j)) := by
  obtain ⟨hs, hl, hown, hel⟩ := h.cac
  obtain ⟨Q, eQ⟩ : ∃ Q, Q = RcQ G w s.sz (partI C j) := ⟨_, rfl⟩
  rw [← eQ]
  obtain ⟨L, eL⟩ : ∃ L, L = C.length := ⟨_, rfl⟩
  rw [← eL] at hC hown
  obtain ⟨A, cp, rfl⟩ := own2_len hown
  have c4 : ∀ W, Below w.heap.size w W → W.cell? ⟨r, 4, none⟩ = some (.slice A L cp) := fun W hW => (h.blk.below hW h.blk.lt).cell 4
  have hG : ∀ b, G b → b < w.heap.size := fun b hb => (h.apart b hb).1
  have hc0 := c4 w (Below.refl _ _)
  have HC4 := Lib.hid c4
  have HG := Lib.hid hG
  have HOWN := Lib.hid hown
  have HEL := Lib.hid hel
  have HLN := Lib.hid hl
  have EL := Lib.hid eL
  have EQ := Lib.hid eQ
  clear eQ eL h hown hel hl c4 hG
  go_enter Tryz.func71, Tryz.ntmps71
  go_wp2_with fail
  go_loopw [5, 6] (fun v b wr => ∃ i : Nat, i ≤ L ∧ b = .int .i64 i ∧ ListR G wr w.heap.size s.sz v (partI (C.take i) j) ∧ Below w.heap.size w wr) (fun _ b _ => L - (intOf b).toNat)
  case atStart => exact ⟨0, Nat.zero_le _, rfl, ⟨[], World.ownsRow_nil _ _ _ _, fun t ht => absurd ht (by simp [partI])⟩, Below.refl _ _⟩
  case round =>
    obtain ⟨i, hi, rfl, hls, hb⟩ := hrel
    have HLS := Lib.hid hls
    have HB := Lib.hid hb
    have c4 := HC4.out wr hb
    clear hls hb hc0
    by_cases hlt : i < L
    · obtain ⟨g, cap, ev, hg, hcells⟩ := own2_cells HOWN.out (by omega)
      simp only [Value.slice.injEq] at ev
      obtain ⟨rfl, _, rfl⟩ := ev
      obtain ⟨e1, e2⟩ := cellsC_at C hs s.sz i HLN.out (by rw [← EL.out]; exact hlt)
      obtain ⟨g1, g2⟩ := HEL.out i (by rw [← EL.out]; exact hlt)
      have k1 : wr.cell? ⟨g, i * 2, none⟩ = some (.int .i64 (C.getD i (0, [])).1) := (cell_of_heap (HB.out.block g hg) _).trans (hcells _ _ e1)
      have k2 : wr.cell? ⟨g, i * 2 + 1, none⟩ = some (.slice (some ⟨hs.getD i 0, 0, none⟩) s.sz s.sz) := (cell_of_heap (HB.out.block g hg) _).trans (hcells _ _ e2)
      obtain ⟨x, ex⟩ : ∃ x, x = C.getD i (0, []) := ⟨_, rfl⟩
      obtain ⟨b, eb⟩ : ∃ b, b = hs.getD i 0 := ⟨_, rfl⟩
      rw [← ex] at k1 g2
      rw [← eb] at k2 g1 g2
      have hsn : partI (C.take (i + 1)) j = if (x.1 : Int) = j then partI (C.take i) j ++ [x.2] else partI (C.take i) j := by
        rw [takeC_snoc C i (by rw [← EL.out]; exact hlt), ← ex]; exact partI_snoc _ _ _
      have HSN := Lib.hid hsn
      have HG1 := Lib.hid g1
      have HG2 := Lib.hid g2
      obtain ⟨X, eX⟩ : ∃ X : Int, X = (x.1 : Int) := ⟨_, rfl⟩
      rw [← eX] at k1
      have EX := Lib.hid eX
      clear hcells e1 e2 ex eb hsn g1 g2 eX
      by_cases hx : X = j
      · have HS2 := Lib.hid (show partI (C.take (i + 1)) j = partI (C.take i) j ++ [x.2] by rw [HSN.out, if_pos (EX.out.symm.trans hx)])
        subst hx
        obtain ⟨Vs, ho, hV⟩ := HLS.out
        obtain ⟨n, en⟩ : ∃ n, n = (partI (C.take i) X).length := ⟨_, rfl⟩
        rw [← en] at ho hV
        have hn : n ≤ i := by
          rw [en]
          exact Nat.le_trans (partI_len _ _) (by rw [List.length_take]; omega)
        have HO := Lib.hid ho
        have HV := Lib.hid hV
        have EN := Lib.hid en
        have hsz : w.heap.size ≤ wr.heap.size := HB.out.size
        clear ho hV en HSN
        go_wp2_with (with_reducible refine app1 rfl (.tmp 26) (.tmp 35) 30 rfl w.heap.size 22 (.slice none 0 0) 24 Tryz.underlying30 info_sl rfl _ n Vs rfl HO.out (.slice (some ⟨b, 0, none⟩) s.sz s.sz) 1 rfl rfl ?c1 ?c2 ?c3 ?_)
        case c1 => unfold maxLen; omega
        case c2 => omega
        case c3 => exact hsz
        intro v4 w4 ho4 hg4
        have hb4 : Below w.heap.size wr w4 := below_grown HO.out hg4 (Nat.le_refl _) hsz
        have hrel : ListR G w4 w.heap.size s.sz v4 (partI (C.take (i + 1)) X) := by
          rw [HS2.out]
          have hlen : (partI (C.take i) X ++ [x.2]).length = n + 1 := by rw [List.length_append, ← EN.out]; rfl
          refine ⟨Vs ++ [.slice (some ⟨b, 0, none⟩) s.sz s.sz], by rw [hlen]; exact ho4, fun t ht => ?_⟩
          rw [hlen] at ht
          have hvl : Vs.length = n := by have := HO.out.1; omega
          by_cases htn : t < n
          · obtain ⟨u, h1, h2⟩ := HV.out t htn
            refine ⟨u, by rw [List.getElem?_append_left (by omega)]; exact h1, ?_⟩
            rw [List.getD_eq_getElem?_getD, List.getElem?_append_left (by rw [← EN.out]; exact htn), ← List.getD_eq_getElem?_getD]
            exact h2.keep (fun c hc => hb4.block c (HG.out c hc)) (fun _ h => h)
          · obtain rfl : n = t := by omega
            refine ⟨_, by rw [List.getElem?_append_right (by omega), hvl, Nat.sub_self]; rfl, ?_⟩
            rw [List.getD_eq_getElem?_getD, List.getElem?_append_right (by rw [← EN.out]; exact Nat.le_refl _), ← EN.out, Nat.sub_self]
            exact ⟨b, rfl, HG1.out, (HG2.out.keep (HB.out.block b (HG.out b HG1.out))).keep (hb4.block b (HG.out b HG1.out))⟩
        have HREL := Lib.hid hrel
        have HB4 := Lib.hid (HB.out.trans hb4)
        clear hrel ho4 hg4 hb4
        go_wp2_with fail
        go_roundw
        case rel => exact ⟨i + 1, by omega, by go_num, HREL.out, HB4.out⟩
        case measure => simp [intOf] <;> omega
      · have HS2 := Lib.hid (show partI (C.take (i + 1)) j = partI (C.take i) j by rw [HSN.out, if_neg (fun h => hx (EX.out.trans h))])
        have t0 : (X == j) = false := by simp; omega
        clear hx HSN
        go_wp2_with fail
        go_roundw
        case rel => exact ⟨i + 1, by omega, by go_num, by rw [HS2.out]; exact HLS.out, HB.out⟩
        case measure => simp [intOf] <;> omega
    · obtain rfl : L = i := by omega
      have hls := HLS.out
      rw [List.take_of_length_le (by rw [← EL.out]; exact Nat.le_refl _)] at hls
      have HF : ∀ v, ListR G wr w.heap.size s.sz v (partI C j) → Q (.returned v) wr := fun v hv => by rw [EQ.out]; exact ⟨v, rfl, hv, HB.out⟩
      have HF2 := Lib.hid (HF _ hls)
      clear hls HF
      go_wp2_with fail
      first | exact HF2.out | (go_ret; exact HF2.out)
end Go.Proofs.YtigfcoibbmndpaaGreat
