/- The reference's forget: a block's writes go out of the one list. -/
import Derived.Test.YtigfcoibbmndpaaGreatRdK
import Derived.Outline
namespace Go.Proofs.YtigfcoibbmndpaaGreat
open Go.RowKit
open Go.ChangeMaps
set_option linter.unusedVariables false
set_option linter.unusedSimpArgs false
def outC (C : List (Nat × List Int)) (j : Nat) : List (Nat × List Int) := C.filter fun x => decide (x.1 ≠ j)
theorem outC_snoc (C : List (Nat × List Int)) (x : Nat × List Int) (j : Nat) : outC (C ++ [x]) j = if x.1 = j then outC C j else outC C j ++ [x] := by
  unfold outC
  rw [List.filter_append]
  by_cases h : x.1 = j
  · simp [h]
  · simp [h]
theorem outC_len (C : List (Nat × List Int)) (j : Nat) : (outC C j).length ≤ C.length := List.length_filter_le _ _
/-- A list of items in the world, the data as in w0. -/
def ItemsR (G : Nat → Prop) (w0 w : World) (B sz : Nat) (v : Value) (D : List (Nat × List Int)) : Prop :=
  ∃ hs : List Nat, hs.length = D.length ∧ w.ownsRow B 113 2 v D.length (cellsC D hs sz) ∧ ∀ i, i < D.length → G (hs.getD i 0) ∧ RowA .u8 5 w0 (hs.getD i 0) sz (fun t => (D.getD i (0, [])).2.getD t 0)
def ForgetQ (G : Nat → Prop) (w : World) (r sz : Nat) (D : List (Nat × List Int)) (e : Ending) (w' : World) : Prop :=
  ∃ v wq, e = .returned (.tuple #[]) ∧ w' = wq.setCell ⟨r, 4, none⟩ v ∧ Below w.heap.size w wq ∧ ItemsR G w wq w.heap.size sz v D
set_option maxHeartbeats 4000000 in
set_option maxRecDepth 100000 in
theorem forget_ok (w : World) (r Bm Bs cm cs : Nat) (vc : Value) (G : Nat → Prop) (s : DSt) (C : List (Nat × List Int)) (wh : Int) (j : Nat) (h : RRepX w r Bm Bs cm cs vc G s C wh) (hC : C.length * 32 ≤ 140737488355328) :
    Calls Tryz.prog 85 #[.pointer (some ⟨r, 0, none⟩), .int .i64 j] w (ForgetQ G w r s.sz (outC C j)) := by
  obtain ⟨hs, hl, hown, hel⟩ := h.cac
  obtain ⟨Q, eQ⟩ : ∃ Q, Q = ForgetQ G w r s.sz (outC C j) := ⟨_, rfl⟩
  rw [← eQ]
  obtain ⟨L, eL⟩ : ∃ L, L = C.length := ⟨_, rfl⟩
  rw [← eL] at hC hown
  obtain ⟨A, cp, rfl⟩ := own2_len hown
  have c4 : ∀ W, Below w.heap.size w W → W.cell? ⟨r, 4, none⟩ = some (.slice A L cp) ∧ W.frozen? ⟨r, 4, none⟩ = false := fun W hW => ⟨(h.blk.below hW h.blk.lt).cell 4, (h.blk.below hW h.blk.lt).free 4⟩
  have HC4 := Lib.hid c4
  have HOWN := Lib.hid hown
  have HEL := Lib.hid hel
  have HLN := Lib.hid hl
  have EL := Lib.hid eL
  have EQ := Lib.hid eQ
  clear eQ eL h hown hel hl c4
  go_enter Tryz.func85, Tryz.ntmps85
  go_wp2_with fail
  go_loopw [4, 5] (fun v b wr => ∃ i : Nat, i ≤ L ∧ b = .int .i64 i ∧ ItemsR G w wr w.heap.size s.sz v (outC (C.take i) j) ∧ Below w.heap.size w wr) (fun _ b _ => L - (intOf b).toNat)
  case atStart => exact ⟨0, Nat.zero_le _, rfl, ⟨[], rfl, World.ownsRow_nil _ _ _ _, fun t ht => absurd ht (by simp [outC])⟩, Below.refl _ _⟩
  case round =>
    obtain ⟨i, hi, rfl, hls, hb⟩ := hrel
    have HLS := Lib.hid hls
    have HB := Lib.hid hb
    obtain ⟨c4, f4⟩ := HC4.out wr hb
    clear hls hb
    by_cases hlt : i < L
    · obtain ⟨g, cap, ev, hg, hcells⟩ := own2_cells HOWN.out (by omega)
      simp only [Value.slice.injEq] at ev
      obtain ⟨rfl, _, rfl⟩ := ev
      obtain ⟨e1, e2⟩ := cellsC_at C hs s.sz i HLN.out (by rw [← EL.out]; exact hlt)
      obtain ⟨g1, g2⟩ := HEL.out i (by rw [← EL.out]; exact hlt)
      have k1 : wr.cell? ⟨g, i * 2, none⟩ = some (.int .i64 (C.getD i (0, [])).1) := (cell_of_heap (HB.out.block g hg) _).trans (hcells _ _ e1)
      have k2 : wr.cell? ⟨g, i * 2 + 1, none⟩ = some (.slice (some ⟨hs.getD i 0, 0, none⟩) s.sz s.sz) := (cell_of_heap (HB.out.block g hg) _).trans (hcells _ _ e2)
      obtain ⟨x, ex⟩ : ∃ x, x = C.getD i (0, []) := ⟨_, rfl⟩
      obtain ⟨b, eb⟩ : ∃ b, b = hs.getD i 0 := ⟨_, rfl⟩
      rw [← ex] at k1 g2
      rw [← eb] at k2 g1 g2
      have hsn : outC (C.take (i + 1)) j = if x.1 = j then outC (C.take i) j else outC (C.take i) j ++ [x] := by
        rw [takeC_snoc C i (by rw [← EL.out]; exact hlt), ← ex]; exact outC_snoc _ _ _
      have HSN := Lib.hid hsn
      have HG1 := Lib.hid g1
      have HG2 := Lib.hid g2
      obtain ⟨X, eX⟩ : ∃ X : Nat, X = x.1 := ⟨_, rfl⟩
      rw [← eX] at k1
      have EX := Lib.hid eX
      clear hcells e1 e2 ex eb hsn g1 g2 eX
      by_cases hx : X = j
      · have HS2 := Lib.hid (show outC (C.take (i + 1)) j = outC (C.take i) j by rw [HSN.out, if_pos (EX.out.symm.trans hx)])
        subst hx
        clear HSN
        go_wp2_with fail
        go_roundw
        case rel => exact ⟨i + 1, by omega, by go_num, by rw [HS2.out]; exact HLS.out, HB.out⟩
        case measure => simp [intOf] <;> omega
      · have HS2 := Lib.hid (show outC (C.take (i + 1)) j = outC (C.take i) j ++ [x] by rw [HSN.out, if_neg (fun h => hx (EX.out.trans h))])
        have t0 : ((X : Int) == (j : Int)) = false := by simp; omega
        have t1 : ((X : Int) != (j : Int)) = true := by simp; omega
        obtain ⟨hs2, hl2, ho, hV⟩ := HLS.out
        obtain ⟨n, en⟩ : ∃ n, n = (outC (C.take i) j).length := ⟨_, rfl⟩
        rw [← en] at ho hV hl2
        have hn : n ≤ i := by
          rw [en]
          exact Nat.le_trans (outC_len _ _) (by rw [List.length_take]; omega)
        have HO := Lib.hid ho
        have HV := Lib.hid hV
        have HL2 := Lib.hid hl2
        have EN := Lib.hid en
        have hsz : w.heap.size ≤ wr.heap.size := HB.out.size
        clear ho hV en HSN hl2 hx
        go_wp2_with (with_reducible refine app2 rfl (.tmp 25) (.tmp 33) 72 rfl w.heap.size 113 (.agg #[.int .i64 0, .slice none 0 0]) 32 Tryz.underlying72 info_item rfl _ n _ rfl HO.out (.int .i64 X) (.slice (some ⟨b, 0, none⟩) s.sz s.sz) 1 rfl rfl rfl ?c1 ?c2 ?c3 ?_)
        case c1 => unfold maxLen; omega
        case c2 => omega
        case c3 => exact hsz
        intro v4 w4 ho4 hg4
        have hb4 : Below w.heap.size wr w4 := below_grown HO.out hg4 (Nat.le_refl _) hsz
        have hrel : ItemsR G w w4 w.heap.size s.sz v4 (outC (C.take (i + 1)) j) := by
          rw [HS2.out]
          have hlen : (outC (C.take i) j ++ [x]).length = n + 1 := by rw [List.length_append, ← EN.out]; rfl
          refine ⟨hs2 ++ [b], by rw [hlen, List.length_append, HL2.out]; rfl, ?_, fun t ht => ?_⟩
          · rw [hlen, cellsC_snoc _ _ _ (by rw [HL2.out, EN.out]), ← EX.out]; exact ho4
          · rw [hlen] at ht
            by_cases htn : t < n
            · obtain ⟨a1, a2⟩ := HV.out t htn
              rw [List.getD_eq_getElem?_getD, List.getElem?_append_left (by rw [HL2.out]; exact htn), ← List.getD_eq_getElem?_getD, List.getD_eq_getElem?_getD (l := _ ++ [x]), List.getElem?_append_left (by rw [← EN.out]; exact htn), ← List.getD_eq_getElem?_getD]
              exact ⟨a1, a2⟩
            · obtain rfl : n = t := by omega
              rw [List.getD_eq_getElem?_getD, List.getElem?_append_right (by rw [HL2.out]; exact Nat.le_refl _), HL2.out, Nat.sub_self, List.getD_eq_getElem?_getD (l := _ ++ [x]), List.getElem?_append_right (by rw [← EN.out]; exact Nat.le_refl _), ← EN.out, Nat.sub_self]
              exact ⟨HG1.out, HG2.out⟩
        have HREL := Lib.hid hrel
        have HB4 := Lib.hid (HB.out.trans hb4)
        clear hrel ho4 hg4 hb4
        go_wp2_with fail
        go_roundw
        case rel => exact ⟨i + 1, by omega, by go_num, HREL.out, HB4.out⟩
        case measure => simp [intOf] <;> omega
    · obtain rfl : L = i := by omega
      have hls := HLS.out
      rw [List.take_of_length_le (by rw [← EL.out]; exact Nat.le_refl _)] at hls
      have hls2 := hls
      obtain ⟨hs2, hl2, ho, hV⟩ := hls2
      obtain ⟨Av, cv, rfl⟩ := own2_len ho
      have HF := Lib.hid (show Q (.returned (.tuple #[])) (wr.setCell ⟨r, 4, none⟩ (.slice Av (outC C j).length cv)) by rw [EQ.out]; exact ⟨_, wr, rfl, rfl, HB.out, hls⟩)
      clear hls ho hV hl2
      go_wp2_with fail
      first | exact HF.out | (go_end0; exact HF.out)
end Go.Proofs.YtigfcoibbmndpaaGreat
