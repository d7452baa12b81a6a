/- Two sights held against each other: sameSeen (where they are alike). -/
import Derived.Test.YtigfcoibbmndpaaLwG
import Derived.Outline
namespace Go.Proofs.Ytigfcoibbmndpaa
open Go.RowKit
open Go.ChangeMaps
set_option linter.unusedVariables false
set_option linter.unusedSimpArgs false
theorem own_rd {w : World} {B : Nat} {e : TypeId} {k : IntKind} {v : Value} {n : Nat} {zs : List Int} (h : w.ownsRow B e 1 v n (zs.map (Value.int k))) (hn : n = zs.length) : Rd k w v zs := by
  subst hn
  by_cases h0 : zs.length = 0
  · have e0 : zs = [] := List.eq_nil_of_length_eq_zero h0
    subst e0
    rcases h.2 with ⟨h, _⟩ | ⟨g, cap, cur, h, _⟩
    · exact .inl ⟨rfl, _, _, h⟩
    · exact .inl ⟨rfl, _, _, h⟩
  · obtain ⟨g, cap, rfl, hB, hg, hc, _, hcell⟩ := own_cells h (by omega)
    refine .inr ⟨g, 0, cap, rfl, by omega, hc, hg, fun i hi => ?_⟩
    rw [Nat.zero_add, hcell i hi, List.getElem?_map, List.getElem?_eq_getElem hi, List.getD_eq_getElem?_getD, List.getElem?_eq_getElem hi]
    rfl
theorem own_len {w : World} {B : Nat} {e : TypeId} {v : Value} {n : Nat} {xs : List Value} (h : w.ownsRow B e 1 v n xs) : ∃ A c, v = .slice A n c := by
  rcases h.2 with ⟨h, h0⟩ | ⟨g, cap, cur, h, _⟩
  · exact ⟨none, 0, by rw [h, h0]⟩
  · exact ⟨_, _, h⟩
theorem SeenV.below {lo : Nat} {w w1 : World} {bv ev : Value} {n : Nat} {xs : Nat → List Int} {es : Nat → Int} (h : SeenV lo w bv ev n xs es) (hb : Below w.heap.size w w1) : SeenV lo w1 bv ev n xs es :=
  h.only (O := fun _ => False) (OnlyP.ofBelow hb) (fun _ _ _ h => h)
theorem SeenV.rdE {lo : Nat} {w : World} {bv ev : Value} {n : Nat} {xs : Nat → List Int} {es : Nat → Int} (h : SeenV lo w bv ev n xs es) : Rd .i64 w ev ((List.range n).map fun j => es j) := by
  refine own_rd (n := n) (B := lo) (e := 3) ?_ (by simp)
  have := h.e
  rw [List.map_map]
  exact this
set_option maxHeartbeats 4000000 in
set_option maxRecDepth 100000 in
theorem sameSeen_ok (lo lo2 : Nat) (w : World) (bv ev bv2 ev2 : Value) (n : Nat) (xs ys : Nat → List Int) (es fs : Nat → Int) (h1 : SeenV lo w bv ev n xs es) (h2 : SeenV lo2 w bv2 ev2 n ys fs) (hn : n ≤ 8192) (hm : ∀ j, j < n → (xs j).length ≤ 1024) (hx : ∀ j, j < n → xs j = ys j) (he : ∀ j, j < n → es j = fs j) :
    Calls Try.prog 20 #[.agg #[bv, ev], .agg #[bv2, ev2]] w fun e w' => e = .returned (.bool true) ∧ Below w.heap.size w w' := by
  obtain ⟨Q, eQ⟩ : ∃ Q : Ending → World → Prop, Q = fun e w' => e = .returned (.bool true) ∧ Below w.heap.size w w' := ⟨_, rfl⟩
  rw [← eQ]
  have EQ := Lib.hid eQ
  obtain ⟨Vs, hV, hVs⟩ := h1.b
  obtain ⟨Us, hU, hUs⟩ := h2.b
  obtain ⟨A, cA, rfl⟩ := own_len hV
  obtain ⟨A2, cA2, rfl⟩ := own_len hU
  obtain ⟨B, cB, rfl⟩ := own_len h1.e
  obtain ⟨B2, cB2, rfl⟩ := own_len h2.e
  obtain ⟨w1, e1⟩ : ∃ w1, w1 = (w.alloc (.cells #[.slice A n cA, .slice B n cB] 35)).alloc (.cells #[.slice A2 n cA2, .slice B2 n cB2] 35) := ⟨_, rfl⟩
  have hb1 : Below w.heap.size w w1 := by rw [e1]; exact ((Below.refl _ _).alloc (Nat.le_refl _) _).alloc (by simp) _
  have g1 := h1.below hb1
  have g2 := h2.below hb1
  have hints := sameI_ok _ _ _ _ w1 g1.rdE g2.rdE (by simp; unfold maxLen; omega) (by simp; unfold maxLen; omega)
  have hdec : decide (((List.range n).map fun j => es j) = (List.range n).map fun j => fs j) = true := by
    rw [decide_eq_true_iff]
    exact List.map_congr_left (fun j hj => he j (List.mem_range.1 hj))
  rw [hdec] at hints
  have HI := Lib.hid hints
  have HB1 := Lib.hid hb1
  have H1 := Lib.hid h1
  have H2 := Lib.hid h2
  have HVs := Lib.hid hVs
  have HUs := Lib.hid hUs
  have HV := Lib.hid hV
  have HU := Lib.hid hU
  have HX := Lib.hid hx
  have HM := Lib.hid hm
  have E1 := Lib.hid e1
  have q1 : Blk w1 w.heap.size 35 #[.slice A n cA, .slice B n cB] := by rw [e1]; exact (Blk.newAt w w.heap.size _ _ rfl).alloc _
  have q2 : Blk w1 (w.heap.size + 1) 35 #[.slice A2 n cA2, .slice B2 n cB2] := by rw [e1]; exact Blk.newAt _ _ _ _ (by simp)
  have HQ1 := Lib.hid q1
  have HQ2 := Lib.hid q2
  have k0 : ((w.alloc (.cells #[.slice A n cA, .slice B n cB] 35)).alloc (.cells #[.slice A2 n cA2, .slice B2 n cB2] 35)).cell? ⟨w.heap.size, 0, none⟩ = some (.slice A n cA) := by rw [← e1]; exact q1.cell 0
  have k1 : ((w.alloc (.cells #[.slice A n cA, .slice B n cB] 35)).alloc (.cells #[.slice A2 n cA2, .slice B2 n cB2] 35)).cell? ⟨w.heap.size, 1, none⟩ = some (.slice B n cB) := by rw [← e1]; exact q1.cell 1
  have k2 : ((w.alloc (.cells #[.slice A n cA, .slice B n cB] 35)).alloc (.cells #[.slice A2 n cA2, .slice B2 n cB2] 35)).cell? ⟨w.heap.size + 1, 0, none⟩ = some (.slice A2 n cA2) := by rw [← e1]; exact q2.cell 0
  have k3 : ((w.alloc (.cells #[.slice A n cA, .slice B n cB] 35)).alloc (.cells #[.slice A2 n cA2, .slice B2 n cB2] 35)).cell? ⟨w.heap.size + 1, 1, none⟩ = some (.slice B2 n cB2) := by rw [← e1]; exact q2.cell 1
  have t0 : ((n : Int) != n) = false := by simp
  have hs1 : w1.heap.size = w.heap.size + 2 := by rw [e1]; simp
  clear eQ h1 h2 hx he hm hV hU hVs hUs hb1 g1 g2 hints hdec e1 q1 q2
  go_enter Try.func20, Try.ntmps20
  go_wp2_with fail
  rw [← E1.out] at k0 k1 k2 k3 ⊢
  refine HI.out.mono ?_
  rintro e w2 ⟨nn, rfl, rfl⟩
  clear HI
  go_wp2_with fail
  go_loopw [5] (fun b wr => ∃ i m : Nat, i ≤ n ∧ b = .int .i64 i ∧ wr = w1.drewN m) (fun b _ => n - (intOf b).toNat)
  case atStart => exact ⟨0, nn, Nat.zero_le _, rfl, rfl⟩
  case round =>
    obtain ⟨i, m, hi, rfl, hw⟩ := hrel
    have HW := Lib.hid hw
    have kk0 : wr.cell? ⟨w.heap.size, 0, none⟩ = some (.slice A n cA) := by rw [hw]; exact k0
    have kk2 : wr.cell? ⟨w.heap.size + 1, 0, none⟩ = some (.slice A2 n cA2) := by rw [hw]; exact k2
    clear hw
    by_cases hlt : i < n
    · obtain ⟨gA, cap1, ev1, _, hgA, _, _, hcA⟩ := own_cells HV.out (by omega)
      obtain ⟨gB, cap2, ev2, _, hgB, _, _, hcB⟩ := own_cells HU.out (by omega)
      simp only [Value.slice.injEq] at ev1 ev2
      obtain ⟨rfl, _, rfl⟩ := ev1
      obtain ⟨rfl, _, rfl⟩ := ev2
      obtain ⟨x, hx1, hx2⟩ := HVs.out i hlt
      obtain ⟨y, hy1, hy2⟩ := HUs.out i hlt
      have cx : w1.cell? ⟨gA, i, none⟩ = some x := (HB1.out.cell (p := ⟨gA, i, none⟩) hgA).trans ((hcA i hlt).trans hx1)
      have cy : w1.cell? ⟨gB, i, none⟩ = some y := (HB1.out.cell (p := ⟨gB, i, none⟩) hgB).trans ((hcB i hlt).trans hy1)
      have hsame := sameB_ok x y _ _ wr.drew (hx2.rd.below (by rw [HW.out]; exact (below_drewN HB1.out m).drew)) (hy2.rd.below (by rw [HW.out]; exact (below_drewN HB1.out m).drew)) (by have := HM.out i hlt; unfold maxLen; omega) (by rw [← HX.out i hlt]; have := HM.out i hlt; unfold maxLen; omega)
      rw [show decide (xs i = ys i) = true from decide_eq_true (HX.out i hlt)] at hsame
      have HS := Lib.hid hsame
      obtain ⟨A3, cp3, rfl⟩ := hx2.rd.slice
      obtain ⟨A4, cp4, rfl⟩ := hy2.rd.slice
      have ccx : wr.cell? ⟨gA, i, none⟩ = some (.slice A3 (xs i).length cp3) := by rw [HW.out]; exact cx
      have ccy : wr.cell? ⟨gB, i, none⟩ = some (.slice A4 (ys i).length cp4) := by rw [HW.out]; exact cy
      clear hsame hx1 hx2 hy1 hy2 hcA hcB
      go_wp2_with fail
      go_still_tail 10, (by kernel_rfl)
      go_wp2_with fail
      refine HS.out.mono ?_
      rintro e w3 ⟨m2, rfl, hw3⟩
      have HW3 := Lib.hid (show w3 = w1.drewN (m + 1 + m2) by rw [hw3, HW.out]; simp [World.drewN, World.drew, Nat.add_assoc])
      clear HS hw3
      go_wp2_with fail
      go_roundw
      case rel => exact ⟨i + 1, _, by omega, by go_num, HW3.out⟩
      case measure => simp [intOf] <;> omega
    · obtain rfl : n = i := by omega
      have hfin : Q (.returned (.bool true)) wr := by
        rw [EQ.out, HW.out]
        exact ⟨rfl, ⟨HB1.out.os, HB1.out.tape, HB1.out.output, HB1.out.size, HB1.out.block⟩⟩
      have HF := Lib.hid hfin
      clear hfin
      go_wp2_with fail
      first | exact HF.out | (go_ret; exact HF.out)
end Go.Proofs.Ytigfcoibbmndpaa
