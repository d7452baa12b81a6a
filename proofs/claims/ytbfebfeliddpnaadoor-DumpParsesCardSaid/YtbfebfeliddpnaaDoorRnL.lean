/- The reference's reader: a part. -/
import Derived.Test.YtbfebfeliddpnaaDoorRnK
import Derived.Outline
import Derived.Deep.CutRange
namespace Go.Proofs.YtbfebfeliddpnaaDoor
open Go.RowKit
set_option linter.unusedVariables false
set_option linter.unusedSimpArgs false
/-- vL is the list of the tokens, below B0. -/
def TkL (B0 : Nat) (w : World) (s : ByteArray) (LT : List Tk) (vL : Value) : Prop := ∃ g cap cs, vL = .slice (some ⟨g, 0, none⟩) LT.length cap ∧ g < B0 ∧ Blk w g 60 cs ∧ ∀ i t, LT[i]? = some t → cs[i * 2]? = some (.string (t.tx s)) ∧ cs[i * 2 + 1]? = some (.int .i64 (t.pl : Nat))
theorem TkL.below {B0 : Nat} {w w1 : World} {s : ByteArray} {LT : List Tk} {vL : Value} (h : TkL B0 w s LT vL) (hb : Below B0 w w1) : TkL B0 w1 s LT vL := by
  obtain ⟨g, cap, cs, e, hg, hbk, hc⟩ := h
  exact ⟨g, cap, cs, e, hg, hbk.below hb hg, hc⟩
def PartQ (B0 : Nat) (w : World) (s : ByteArray) (LT : List Tk) (q : Nat) (vL : Value) (ix p : Nat) (r : RSt) (e : Ending) (w' : World) : Prop :=
  ∃ ok, e = .returned (.bool ok) ∧ Below B0 w w' ∧ if ok = true then ∃ ix1 r1 vb1 vs1, wholePart s p r (LT.drop ix) = .ok (r1, LT.drop ix1) ∧ ix1 < LT.length ∧ RdS B0 w' q vL ix1 r1 vb1 vs1 (decide (p = 7)) ∧ r1.m.slots.length ≤ ix1 ∧ (2 ≤ p → 1 ≤ r1.m.bl) ∧ (p < 7 → r1.m.bits = r.m.bits) else ∃ ix1 t, wholePart s p r (LT.drop ix) = .error t.pl ∧ LT[ix1]? = some t ∧ Blk16 w' q vL ix1
def namesP : Array Value := #[.string wMeta, .string wSeq, .string wDevice, .string wGens, .string wFlags, .string wMark, .string wSlots, .string wBits]
theorem whole_no (s : ByteArray) (p : Nat) (r : RSt) (t : Tk) (l : List Tk) (h : t.tx s ≠ wPart p) : wholePart s p r (t :: l) = .error t.pl := by
  unfold wholePart readF
  cases t with
  | word a b =>
    simp only
    unfold isW
    rw [if_neg (show ¬ s.extract a b = wPart p from h)]
    rfl
  | semi a => rfl
  | bad a => rfl
  | fin a => rfl
theorem whole_yes (s : ByteArray) (p : Nat) (hp : p < 8) (r : RSt) (t : Tk) (l : List Tk) (h : t.tx s = wPart p) : wholePart s p r (t :: l) = partF s p 0 r l ∧ t.goes = true := by
  have h1 : bSemi ≠ wPart p := by rcases (by omega : p = 0 ∨ p = 1 ∨ p = 2 ∨ p = 3 ∨ p = 4 ∨ p = 5 ∨ p = 6 ∨ p = 7) with rfl | rfl | rfl | rfl | rfl | rfl | rfl | rfl <;> decide
  have h2 : bBad ≠ wPart p := by rcases (by omega : p = 0 ∨ p = 1 ∨ p = 2 ∨ p = 3 ∨ p = 4 ∨ p = 5 ∨ p = 6 ∨ p = 7) with rfl | rfl | rfl | rfl | rfl | rfl | rfl | rfl <;> decide
  have h3 : ByteArray.empty ≠ wPart p := by rcases (by omega : p = 0 ∨ p = 1 ∨ p = 2 ∨ p = 3 ∨ p = 4 ∨ p = 5 ∨ p = 6 ∨ p = 7) with rfl | rfl | rfl | rfl | rfl | rfl | rfl | rfl <;> decide
  cases t with
  | word a b =>
    refine ⟨?_, rfl⟩
    have h' : s.extract a b = wPart p := h
    unfold wholePart readF
    simp only
    unfold isW
    rw [if_pos h']
  | semi a => exact absurd h h1
  | bad a => exact absurd h h2
  | fin a => exact absurd h h3
theorem names_cell (p : Nat) (hp : p < 8) : namesP[p]? = some (.string (wPart p)) := by
  rcases (by omega : p = 0 ∨ p = 1 ∨ p = 2 ∨ p = 3 ∨ p = 4 ∨ p = 5 ∨ p = 6 ∨ p = 7) with rfl | rfl | rfl | rfl | rfl | rfl | rfl | rfl <;> rfl
theorem RdS.drewN {B0 : Nat} {w : World} {q : Nat} {vL : Value} {ix : Nat} {r : RSt} {vb vs : Value} {p7 : Bool} (h : RdS B0 w q vL ix r vb vs p7) (m : Nat) : RdS B0 (w.drewN m) q vL ix r vb vs p7 := ⟨h.blk, h.hq, h.slots, h.bits, h.fl, h.flag, h.bl, h.sl, h.least⟩
theorem fits_bl {t : ByteArray} {r r1 : RSt} (h : fitsF 2 0 t r = some r1) : 1 ≤ r1.m.bl := by
  unfold fitsF at h; simp only at h
  obtain ⟨x, hx, rfl⟩ := Option.map_eq_some_iff.1 h; exact (in_ge hx).1
set_option maxHeartbeats 8000000 in
set_option maxRecDepth 100000 in
theorem part_ok (B0 : Nat) (w : World) (s : ByteArray) (LT : List Tk) (q : Nat) (vL : Value) (ix p : Nat) (r : RSt) (vb vs : Value) (hp : p < 8) (hs : s.size ≤ 65536) (hLT : LT = toks s 0) (hix : ix < LT.length) (hB0 : B0 ≤ w.heap.size) (hT : TkL B0 w s LT vL)
    (h : RdS B0 w q vL ix r vb vs false) (hsl : r.m.slots.length ≤ ix) (hbl : 2 < p → 1 ≤ r.m.bl) (hbits : p = 7 → r.m.bits = fun _ => false) :
    Calls Tryd.prog 22 #[.pointer (some ⟨q, 0, none⟩), .int .i64 (p : Nat)] w (PartQ B0 w s LT q vL ix p r) := by
  obtain ⟨Q, eQ⟩ : ∃ Q, Q = PartQ B0 w s LT q vL ix p r := ⟨_, rfl⟩
  rw [← eQ]
  have EQ := Lib.hid eQ
  have hlen : LT.length ≤ 65537 := by rw [hLT]; have := (toks_ends s _ 0 (Nat.le_refl _) (Nat.zero_le _)).2; omega
  have HEND := Lib.hid (show ∀ i t, LT[i]? = some t → t.goes = true → i + 1 < LT.length by rw [hLT]; exact ends_get (toks_ends s _ 0 (Nat.le_refl _) (Nat.zero_le _)).1)
  have HTOK := Lib.hid (show ∀ t ∈ LT, TkOk s t by rw [hLT]; exact toks_ok s _ 0 (Nat.le_refl _) (Nat.zero_le _))
  obtain ⟨t0, ht0⟩ : ∃ t, LT[ix]? = some t := ⟨_, List.getElem?_eq_getElem hix⟩
  obtain ⟨NL, eNL⟩ : ∃ x, x = LT.length := ⟨_, rfl⟩
  obtain ⟨g, cap, cs, rfl, hg, hbk, hc⟩ := hT
  rw [← eNL] at hix hlen
  have hH : q < w.heap.size := h.blk.lt
  obtain ⟨H, eH⟩ : ∃ x, x = w.heap.size := ⟨_, rfl⟩
  obtain ⟨w2, e2⟩ : ∃ x, x = w.alloc (.cells namesP 88) := ⟨_, rfl⟩
  have hb2 : Below H w w2 := by rw [e2, eH]; exact (Below.refl _ _).alloc (Nat.le_refl _) _
  have hnm : Blk w2 H 88 namesP := by rw [e2, eH]; exact Blk.new _ _ _
  have hr2 : RdS B0 w2 q (.slice (some ⟨g, 0, none⟩) LT.length cap) ix r vb vs false := h.below (by rw [← eH]; exact hb2)
  have hk2 : Blk w2 g 60 cs := hbk.below hb2 (by omega)
  have hlow : Below B0 w w2 := by rw [e2]; exact (Below.refl _ _).alloc hB0 _
  unfold namesP wMeta wSeq wDevice wGens wFlags wMark wSlots wBits at e2
  have c0 : w2.cell? ⟨q, 0, none⟩ = some (.slice (some ⟨g, 0, none⟩) NL cap) := by rw [hr2.blk.cell, eNL]; rfl
  have c1 : w2.cell? ⟨q, 1, none⟩ = some (.int .i64 (ix : Nat)) := by rw [hr2.blk.cell]; rfl
  have f1 : w2.frozen? ⟨q, 1, none⟩ = false := hr2.blk.free 1
  have k0 : w2.cell? ⟨g, ix * 2, none⟩ = some (.string (t0.tx s)) := by rw [hk2.cell]; exact (hc ix t0 ht0).1
  have n0 : w2.cell? ⟨H, p, none⟩ = some (.string (wPart p)) := by rw [hnm.cell]; exact names_cell p hp
  have hf1 : ((t0.tx s).toList == (wPart p).toList) = decide (t0.tx s = wPart p) := str_eq _ _
  obtain ⟨TX, eTX⟩ : ∃ x, x = t0.tx s := ⟨_, rfl⟩
  obtain ⟨WP, eWP⟩ : ∃ x, x = wPart p := ⟨_, rfl⟩
  rw [← eTX] at k0 hf1
  rw [← eWP] at n0 hf1
  have E2 := Lib.hid e2
  have EH := Lib.hid eH
  have HK2 := Lib.hid hk2
  have HR2 := Lib.hid hr2
  have HC := Lib.hid hc
  have HLOW := Lib.hid hlow
  have ENL := Lib.hid eNL
  have HT0 := Lib.hid ht0
  have ETX := Lib.hid (And.intro eTX eWP)
  clear eQ e2 eH hk2 hr2 hc hlow eNL ht0 eTX eWP h hnm hbk hLT hb2 hH
  go_enter Tryd.func22, Tryd.ntmps22
  go_upto_region 2 with (fail)
  rw [show w.heap.size = H from EH.out.symm, ← E2.out]
  by_cases hx : TX = WP
  case neg =>
    have HF := Lib.hid (fun m => show Q (.returned (.bool false)) (w2.drewN m) by
      rw [EQ.out]
      refine ⟨false, rfl, below_drewN HLOW.out m, ?_⟩
      simp only [Bool.false_eq_true, if_false]
      refine ⟨ix, t0, ?_, HT0.out, HR2.out.b16⟩
      rw [drop_get HT0.out]
      exact whole_no s p r t0 _ (by rw [← ETX.out.1, ← ETX.out.2]; exact hx))
    rw [decide_eq_false hx] at hf1
    clear hx ETX
    go_quiet (fail)
    go_wp2_with fail
    first | exact HF.out _ | (go_ret; exact HF.out _)
  have hx' : t0.tx s = wPart p := by rw [← ETX.out.1, ← ETX.out.2]; exact hx
  obtain ⟨hw1, hgoes⟩ := whole_yes s p hp r t0 (LT.drop (ix + 1)) hx'
  have hix1 := HEND.out ix t0 HT0.out hgoes
  rw [← ENL.out] at hix1
  have HW := Lib.hid (show wholePart s p r (LT.drop ix) = partF s p 0 r (LT.drop (ix + 1)) by rw [drop_get HT0.out]; exact hw1)
  rw [decide_eq_true hx] at hf1
  clear hw1 hgoes hx' HT0 hx
  by_cases hp7 : p = 7
  · have hp7f : ((p : Int) == 7) = true := by rw [hp7]; rfl
    obtain ⟨N, eN⟩ : ∃ x, x = r.m.bl := ⟨_, rfl⟩
    obtain ⟨W, eW⟩ : ∃ x, x = (N + 63) / 64 := ⟨_, rfl⟩
    have hN1 : 1 ≤ N := by rw [eN]; exact hbl (by omega)
    have hN2 : N ≤ 4096 := by rw [eN]; exact HR2.out.bl
    have hW1 : W ≤ 65 := by omega
    have hW2 : ((N : Int) + 63) / 64 = (W : Int) := by omega
    have hvb : vb = .slice none 0 0 := HR2.out.bits
    have hq9 : q < w2.heap.size := HR2.out.blk.lt
    have hh9 : ∀ v m, ((w2.drewN m).setCell ⟨q, 1, none⟩ v).heap.size = w2.heap.size := fun v m => size_setCell _ _ _
    have c3 : w2.cell? ⟨q, 3, none⟩ = some (.int .i64 (N : Nat)) := by rw [HR2.out.blk.cell, eN]; rfl
    have c12 : w2.cell? ⟨q, 12, none⟩ = some (.slice none 0 0) := by rw [HR2.out.blk.cell, hvb]; rfl
    have f12 : w2.frozen? ⟨q, 12, none⟩ = false := HR2.out.blk.free 12
    have hmk := fun w => run_make_row' (P := Tryd.prog) 28 22 (.int .u64 0) 8 Tryd.underlying28 info_u64 rfl .i64 .i64 W (by omega) (by omega) w
    have EN := Lib.hid eN
    have EW := Lib.hid eW
    have HVB := Lib.hid hvb
    have HP7 := Lib.hid hp7
    clear eN eW hvb hp7
    go_quiet (fail)
    go_upto_region 7 with (fail)
    obtain ⟨w4, e4⟩ : ∃ x, x = ((((w2.drewN nq).setCell ⟨q, 1, none⟩ (.int .i64 ((ix : Int) + 1))).setCell ⟨q, 12, none⟩ (.slice (some ⟨w2.heap.size, 0, none⟩) W W)).alloc (.cells (madeCells #[.int .u64 0] W) 22)) := ⟨_, rfl⟩
    rw [← e4]
    have ho4 : OnlyP (fun b => b = q) w2 w4 := by
      rw [e4]
      exact (((((OnlyP.refl (fun b => b = q) w2).drewN nq).set (p := ⟨q, 1, none⟩) (.inl rfl) _).set (p := ⟨q, 12, none⟩) (.inl rfl) _).alloc _)
    have hsz4 : (((w2.drewN nq).setCell ⟨q, 1, none⟩ (.int .i64 ((ix : Int) + 1))).setCell ⟨q, 12, none⟩ (.slice (some ⟨w2.heap.size, 0, none⟩) W W)).heap.size = w2.heap.size := by rw [size_setCell, size_setCell]; rfl
    have hbk4 : Blk w4 q 57 (rArr19 (.slice (some ⟨g, 0, none⟩) LT.length cap) (ix + 1) r (.slice (some ⟨w2.heap.size, 0, none⟩) W W) vs) := by
      rw [e4]
      exact Blk.alloc (((show Blk (w2.drewN nq) q _ _ from HR2.out.blk).set 1 _).set 12 _) _
    have hrow4 : RowA .u64 22 w4 w2.heap.size W (fun k => (wd r.m.bits N k : Nat)) := by
      have h9 := RowA.made .u64 22 (((w2.drewN nq).setCell ⟨q, 1, none⟩ (.int .i64 ((ix : Int) + 1))).setCell ⟨q, 12, none⟩ (.slice (some ⟨w2.heap.size, 0, none⟩) W W)) W
      rw [hsz4, ← e4] at h9
      exact h9.congr (fun k _ => by rw [hbits HP7.out, wd_nil]; rfl)
    have hr4 : RdS B0 w4 q (.slice (some ⟨g, 0, none⟩) LT.length cap) (ix + 1) r (.slice (some ⟨w2.heap.size, 0, none⟩) W W) vs (decide (p = 7)) := by
      refine ⟨hbk4, HR2.out.hq, ?_, ?_, HR2.out.fl, HR2.out.flag, HR2.out.bl, HR2.out.sl, HR2.out.least⟩
      · refine own_keep2 HR2.out.slots (fun g hg => ?_)
        obtain ⟨cur, hc⟩ := own_blk HR2.out.slots hg
        exact ho4.block g hc.lt (reader_ne HR2.out.blk hc (by decide))
      · rw [decide_eq_true HP7.out]
        simp only [if_true]
        rw [← EN.out]
        exact ⟨w2.heap.size, by rw [← EW.out], Nat.le_trans hB0 HLOW.out.size, by rw [← EW.out]; exact hrow4⟩
    have hb4 : Below B0 w w4 := HLOW.out.trans (ho4.below (Nat.le_trans hB0 HLOW.out.size) (fun x hx => by rw [hx]; exact HR2.out.hq))
    have HR4 := Lib.hid hr4
    have HB4 := Lib.hid hb4
    clear e4 hr4 hb4 hrow4 hbk4 ho4 hsz4 c0 c1 f1 k0 n0 c3 c12 f12 hmk hW2 hh9 hq9 EN EW HVB
    go_wp2_with fail
    go_loopw [6, 7, 8] (fun kv _ _ wr => ∃ (k ix1 : Nat) (r1 : RSt) (vb1 vs1 : Value), kv = .int .i64 (k : Nat) ∧ k ≤ ix1 ∧ ix1 < NL ∧ RdS B0 wr q (.slice (some ⟨g, 0, none⟩) LT.length cap) ix1 r1 vb1 vs1 (decide (p = 7)) ∧ Below B0 w wr ∧ r1.m.slots.length ≤ ix1 ∧ (2 ≤ p → (p = 2 ∧ k = 0) ∨ 1 ≤ r1.m.bl) ∧ (p < 7 → r1.m.bits = r.m.bits) ∧ partF s p k r1 (LT.drop ix1) = wholePart s p r (LT.drop ix)) (fun kv _ _ _ => NL - (intOf kv).toNat)
    case atStart => exact ⟨0, ix + 1, r, _, _, rfl, Nat.zero_le _, hix1, HR4.out, HB4.out, by omega, fun h2 => by by_cases h3 : p = 2; exact .inl ⟨h3, rfl⟩; exact .inr (hbl (by omega)), fun _ => rfl, HW.out.symm⟩
    case round =>
      obtain ⟨k, ix2, r2, vb2, vs2, rfl, hk, hix2, hr, hb, hsl2, hbl2, hbits2, hpart⟩ := hrel
      obtain ⟨t, ht⟩ : ∃ t, LT[ix2]? = some t := ⟨_, List.getElem?_eq_getElem (by rw [← ENL.out]; exact hix2)⟩
      rw [drop_get ht] at hpart
      have hkr := HK2.out
      have c0 : wr.cell? ⟨q, 0, none⟩ = some (.slice (some ⟨g, 0, none⟩) NL cap) := by rw [hr.blk.cell, ENL.out]; rfl
      have c1 : wr.cell? ⟨q, 1, none⟩ = some (.int .i64 (ix2 : Nat)) := by rw [hr.blk.cell]; rfl
      have hkw := hb.block g hg
      have k0 : wr.cell? ⟨g, ix2 * 2, none⟩ = some (.string (t.tx s)) := by rw [cell_of_heap (hkw.trans (HLOW.out.block g hg).symm) _, HK2.out.cell]; exact (HC.out ix2 t ht).1
      have k1 : wr.cell? ⟨g, ix2 * 2 + 1, none⟩ = some (.int .i64 (t.pl : Nat)) := by rw [cell_of_heap (hkw.trans (HLOW.out.block g hg).symm) _, HK2.out.cell]; exact (HC.out ix2 t ht).2
      have hg2 : g < wr.heap.size := by have := hb.size; omega
      have hq2 : q < wr.heap.size := hr.blk.lt
      obtain ⟨TX2, eTX2⟩ : ∃ x, x = t.tx s := ⟨_, rfl⟩
      obtain ⟨TP, eTP⟩ : ∃ x, x = t.pl := ⟨_, rfl⟩
      rw [← eTX2] at k0
      rw [← eTP] at k1
      have HR := Lib.hid hr
      have HB := Lib.hid hb
      have HPART := Lib.hid hpart
      have HT := Lib.hid (And.intro ht (And.intro eTX2 eTP))
      have HBL2 := Lib.hid hbl2
      have HBI2 := Lib.hid hbits2
      clear hr hb hpart ht eTX2 eTP hkr hkw hbl2 hbits2 HR4 HB4 HW
      go_wp2_with fail
      go_region_law (fail)
      all_goals
        obtain ⟨w5, e5⟩ : ∃ x, x = (wr.alloc (.cells #[.string TX2, .int .i64 (TP : Nat)] 60)).drew := ⟨_, rfl⟩
        rw [← e5]
        obtain ⟨G, eG⟩ : ∃ x, x = wr.heap.size := ⟨_, rfl⟩
        rw [← eG]
        have hlow5 : Below wr.heap.size wr w5 := by
          rw [e5]
          have h9 : Below wr.heap.size wr (wr.alloc (.cells #[.string TX2, .int .i64 (TP : Nat)] 60)) := (Below.refl _ _).alloc (Nat.le_refl _) _
          exact ⟨h9.os, h9.tape, h9.output, h9.size, h9.block⟩
        have hb5 : Below B0 w w5 := HB.out.trans ⟨hlow5.os, hlow5.tape, hlow5.output, hlow5.size, fun b hb => hlow5.block b (by have := HB.out.size; omega)⟩
        have hr5 := HR.out.below hlow5
        have g0 : w5.cell? ⟨G, 0, none⟩ = some (.string TX2) := by rw [e5, eG]; exact (show Blk (wr.alloc (.cells #[.string TX2, .int .i64 (TP : Nat)] 60)) wr.heap.size 60 #[.string TX2, .int .i64 (TP : Nat)] from Blk.new _ _ _).cell 0
        have hB5 : B0 ≤ w5.heap.size := Nat.le_trans hB0 hb5.size
        have HR5 := Lib.hid hr5
        have HB5 := Lib.hid hb5
        clear e5 eG hlow5 hb5 hr5 HR HB c0 c1 k0 k1
        obtain ⟨ht, hTX2, hTP⟩ := HT.out
        have HLT := Lib.hid ht
        have HNO := Lib.hid (fun (w' : World) (hb : Below B0 w w') (hbk : Blk16 w' q (.slice (some ⟨g, 0, none⟩) LT.length cap) ix2) (hx : partF s p k r2 (t :: LT.drop (ix2 + 1)) = .error t.pl) => show Q (.returned (.bool false)) w' by
          rw [EQ.out]
          refine ⟨false, rfl, hb, ?_⟩
          simp only [Bool.false_eq_true, if_false]
          exact ⟨ix2, t, by rw [← HPART.out]; exact hx, ht, hbk⟩)
        clear HT ht
        cases t with
        | word a b =>
          have htok : TkOk s (.word a b) := HTOK.out _ (List.mem_of_getElem? HLT.out)
          have hTX' : TX2 = s.extract a b := hTX2
          have x1 : (TX2.toList == [59]) = false := by
            have h9 := str_eq TX2 bSemi
            rw [decide_eq_false (by rw [hTX']; exact word_ne s a b htok), bSemi_list] at h9
            exact h9
          have x2 : (TX2.toList == [63]) = false := by
            have h9 := str_eq TX2 bBad
            rw [decide_eq_false (by rw [hTX']; exact word_nb s a b htok), show bBad.toList = [63] from by rw [ByteArray.toList_eq]; rfl] at h9
            exact h9
          have x3 : (TX2.toList == []) = false := by
            have h9 := str_eq TX2 ByteArray.empty
            rw [decide_eq_false (by rw [hTX']; exact word_n0 s a b htok), show ByteArray.empty.toList = [] from by rw [ByteArray.toList_eq]; rfl] at h9
            exact h9
          have hsz : TX2.size ≤ 65536 := by rw [hTX']; have := (word_first s a b htok).2.1; omega
          have hgo := HEND.out ix2 (.word a b) HLT.out rfl
          rw [← ENL.out] at hgo
          have HFI := Lib.hid (fits_ok B0 w5 q _ ix2 p k TX2 r2 vb2 vs2 hp hsz (by omega) (fun h7 => by rcases HBL2.out (by omega) with h8 | h8; omega; exact h8) hB5 (by omega) HR5.out)
          have HST0 := Lib.hid (fun (hx : fitsF p k TX2 r2 = none) => show partF s p k r2 (.word a b :: LT.drop (ix2 + 1)) = .error a by rw [partF, ← hTX', hx])
          have HSTEP := Lib.hid (fun r1 (hx : fitsF p k TX2 r2 = some r1) => show partF s p k r2 (.word a b :: LT.drop (ix2 + 1)) = partF s p (k + 1) r1 (LT.drop (ix2 + 1)) by rw [partF, ← hTX', hx])
          clear hTX2 hTX' htok hsz hTP
          go_wp2_with fail
          refine HFI.out.mono ?_
          intro e w6 hq
          have hlow6 := hq.below HR5.out hB5
          have HB6 := Lib.hid (HB5.out.trans hlow6)
          obtain ⟨ok, rfl, ho, hm⟩ := hq
          cases ok
          · simp only [Bool.false_eq_true, if_false] at hm
            have HF := Lib.hid (HNO.out w6 HB6.out hm.2 (HST0.out hm.1))
            clear hm ho hlow6 HNO HSTEP HST0 HFI
            go_wp2_with fail
            first | exact HF.out | (go_ret; exact HF.out)
          · simp only [if_true] at hm
            obtain ⟨r3, vb3, vs3, hf, hr6⟩ := hm
            obtain ⟨i1, i2, i3⟩ := fits_inv p k TX2 r2 r3 hp hf
            have c1 : w6.cell? ⟨q, 1, none⟩ = some (.int .i64 (ix2 : Nat)) := by rw [hr6.blk.cell]; rfl
            have f1 : w6.frozen? ⟨q, 1, none⟩ = false := hr6.blk.free 1
            have HREL := Lib.hid (show ∃ (k' ix1 : Nat) (r1 : RSt) (vb1 vs1 : Value), Value.int .i64 ((k : Int) + 1) = .int .i64 (k' : Nat) ∧ k' ≤ ix1 ∧ ix1 < NL ∧ RdS B0 (w6.setCell ⟨q, 1, none⟩ (.int .i64 ((ix2 : Int) + 1))) q (.slice (some ⟨g, 0, none⟩) LT.length cap) ix1 r1 vb1 vs1 (decide (p = 7)) ∧ Below B0 w (w6.setCell ⟨q, 1, none⟩ (.int .i64 ((ix2 : Int) + 1))) ∧ r1.m.slots.length ≤ ix1 ∧ (2 ≤ p → (p = 2 ∧ k' = 0) ∨ 1 ≤ r1.m.bl) ∧ (p < 7 → r1.m.bits = r.m.bits) ∧ partF s p k' r1 (LT.drop ix1) = wholePart s p r (LT.drop ix) from by
              refine ⟨k + 1, ix2 + 1, r3, vb3, vs3, by go_num, by omega, hgo, hr6.at (ix2 + 1), ?_, by omega, fun h2 => .inr ?_, fun h7 => (i3 h7).trans (HBI2.out h7), ?_⟩
              · exact HB6.out.trans (((OnlyP.refl (fun b => b = q) w6).set (p := ⟨q, 1, none⟩) (.inl rfl) (.int .i64 ((ix2 : Int) + 1))).below (B := B0) (Nat.le_trans hB0 HB6.out.size) (fun x hx => by rw [hx]; exact hr6.hq))
              · rcases i1 with h8 | h8
                · rw [h8]
                  rcases HBL2.out h2 with h9 | h9
                  · rw [← h8]; rw [h9.1, h9.2] at hf; exact fits_bl hf
                  · exact h9
                · exact h8.2.2
              · have h9 := HPART.out
                rw [HSTEP.out r3 hf] at h9
                exact h9)
            clear hf hr6 i1 i2 i3 ho hlow6 HNO HSTEP HST0 HFI HPART
            go_wp2_with fail
            go_roundw
            case rel => exact HREL.out
            case measure => simp [intOf]; omega
        | semi a =>
          have x1 : (TX2.toList == [59]) = true := by rw [hTX2]; show (bSemi.toList == [59]) = true; rw [bSemi_list]; rfl
          have hgo := HEND.out ix2 (.semi a) HLT.out rfl
          obtain ⟨L5, eL5⟩ : ∃ x, x = r2.m.sl := ⟨_, rfl⟩
          have c5 : w5.cell? ⟨q, 5, none⟩ = some (.int .i64 (L5 : Nat)) := by rw [HR5.out.blk.cell, eL5]; rfl
          have HE := Lib.hid (ends_ok w5 q p k L5 r2 hp (by omega) eL5 (by rw [eL5]; exact HR5.out.sl) c5)
          have c1 : w5.cell? ⟨q, 1, none⟩ = some (.int .i64 (ix2 : Nat)) := by rw [HR5.out.blk.cell]; rfl
          have f1 : w5.frozen? ⟨q, 1, none⟩ = false := HR5.out.blk.free 1
          have hp2 : partF s p k r2 (.semi a :: LT.drop (ix2 + 1)) = if endsF p k r2 = true then .ok (r2, LT.drop (ix2 + 1)) else .error a := rfl
          have HP2 := Lib.hid hp2
          clear hTX2 hTP hp2 eL5 c5
          go_wp2_with fail
          refine HE.out.mono ?_
          rintro e w6 ⟨rfl, rfl⟩
          obtain ⟨ok, eok⟩ : ∃ x, x = endsF p k r2 := ⟨_, rfl⟩
          rw [← eok]
          cases ok
          · have HF := Lib.hid (HNO.out _ HB5.out HR5.out.b16 (by rw [HP2.out, ← eok]; rfl))
            clear HNO eok HE HP2
            go_wp2_with fail
            first | exact HF.out | (go_ret; exact HF.out)
          · have HF := Lib.hid (show Q (.returned (.bool true)) (w6.setCell ⟨q, 1, none⟩ (.int .i64 ((ix2 : Int) + 1))) by
              rw [EQ.out]
              refine ⟨true, rfl, ?_, ?_⟩
              · exact HB5.out.trans (((OnlyP.refl (fun b => b = q) w6).set (p := ⟨q, 1, none⟩) (.inl rfl) (.int .i64 ((ix2 : Int) + 1))).below (B := B0) hB5 (fun x hx => by rw [hx]; exact HR5.out.hq))
              · simp only [if_true]
                refine ⟨ix2 + 1, r2, vb2, vs2, ?_, hgo, HR5.out.at (ix2 + 1), by omega, fun h2 => ?_, HBI2.out⟩
                · rw [← HPART.out, HP2.out, ← eok]; rfl
                · rcases HBL2.out h2 with ⟨h8, h9⟩ | h8
                  · rw [h8, h9] at eok; exact absurd (show true = false from eok) (by decide)
                  · exact h8)
            clear HNO eok HE HP2 HPART
            go_wp2_with fail
            first | exact HF.out | (go_ret; exact HF.out)
        | bad a =>
          have x1 : (TX2.toList == [59]) = false := by rw [hTX2]; show (bBad.toList == [59]) = false; rw [ByteArray.toList_eq]; rfl
          have x2 : (TX2.toList == [63]) = true := by rw [hTX2]; show (bBad.toList == [63]) = true; rw [ByteArray.toList_eq]; rfl
          have x3 : (TX2.toList == []) = false := by rw [hTX2]; show (bBad.toList == []) = false; rw [ByteArray.toList_eq]; rfl
          have HF := Lib.hid (fun m => HNO.out (w5.drewN m) (below_drewN HB5.out m) (HR5.out.drewN m).b16 rfl)
          clear hTX2 HNO hTP HPART
          go_wp2_with fail
          first | exact HF.out 0 | (go_ret; exact HF.out 0) | (go_quiet (fail); go_wp2_with fail; first | exact HF.out _ | (go_ret; exact HF.out _))
        | fin a =>
          have x1 : (TX2.toList == [59]) = false := by rw [hTX2]; show (ByteArray.empty.toList == [59]) = false; rw [ByteArray.toList_eq]; rfl
          have x3 : (TX2.toList == []) = true := by rw [hTX2]; show (ByteArray.empty.toList == []) = true; rw [ByteArray.toList_eq]; rfl
          have HF := Lib.hid (fun m => HNO.out (w5.drewN m) (below_drewN HB5.out m) (HR5.out.drewN m).b16 rfl)
          clear hTX2 HNO hTP HPART
          go_wp2_with fail
          first | exact HF.out 0 | (go_ret; exact HF.out 0) | (go_quiet (fail); go_wp2_with fail; first | exact HF.out _ | (go_ret; exact HF.out _))
  · have hp7f : ((p : Int) == 7) = false := by rw [beq_eq_false_iff_ne]; omega
    go_quiet (fail)
    go_upto_region 7 with (fail)
    obtain ⟨w4, e4⟩ : ∃ x, x = (w2.drewN nq).setCell ⟨q, 1, none⟩ (.int .i64 ((ix : Int) + 1)) := ⟨_, rfl⟩
    rw [← e4]
    have hr4 : RdS B0 w4 q (.slice (some ⟨g, 0, none⟩) LT.length cap) (ix + 1) r vb vs (decide (p = 7)) := by rw [e4, decide_eq_false hp7]; exact (HR2.out.drewN nq).at (ix + 1)
    have hb4 : Below B0 w w4 := by
      rw [e4]
      exact (below_drewN HLOW.out nq).trans (((OnlyP.refl (fun b => b = q) (w2.drewN nq)).set (p := ⟨q, 1, none⟩) (.inl rfl) (.int .i64 ((ix : Int) + 1))).below (B := B0) (Nat.le_trans hB0 HLOW.out.size) (fun x hx => by rw [hx]; exact HR2.out.hq))
    have HR4 := Lib.hid hr4
    have HB4 := Lib.hid hb4
    clear e4 hr4 hb4 c0 c1 f1 k0 n0
    go_wp2_with fail
    go_loopw [6, 7, 8] (fun kv _ _ wr => ∃ (k ix1 : Nat) (r1 : RSt) (vb1 vs1 : Value), kv = .int .i64 (k : Nat) ∧ k ≤ ix1 ∧ ix1 < NL ∧ RdS B0 wr q (.slice (some ⟨g, 0, none⟩) LT.length cap) ix1 r1 vb1 vs1 (decide (p = 7)) ∧ Below B0 w wr ∧ r1.m.slots.length ≤ ix1 ∧ (2 ≤ p → (p = 2 ∧ k = 0) ∨ 1 ≤ r1.m.bl) ∧ (p < 7 → r1.m.bits = r.m.bits) ∧ partF s p k r1 (LT.drop ix1) = wholePart s p r (LT.drop ix)) (fun kv _ _ _ => NL - (intOf kv).toNat)
    case atStart => exact ⟨0, ix + 1, r, _, _, rfl, Nat.zero_le _, hix1, HR4.out, HB4.out, by omega, fun h2 => by by_cases h3 : p = 2; exact .inl ⟨h3, rfl⟩; exact .inr (hbl (by omega)), fun _ => rfl, HW.out.symm⟩
    case round =>
      obtain ⟨k, ix2, r2, vb2, vs2, rfl, hk, hix2, hr, hb, hsl2, hbl2, hbits2, hpart⟩ := hrel
      obtain ⟨t, ht⟩ : ∃ t, LT[ix2]? = some t := ⟨_, List.getElem?_eq_getElem (by rw [← ENL.out]; exact hix2)⟩
      rw [drop_get ht] at hpart
      have hkr := HK2.out
      have c0 : wr.cell? ⟨q, 0, none⟩ = some (.slice (some ⟨g, 0, none⟩) NL cap) := by rw [hr.blk.cell, ENL.out]; rfl
      have c1 : wr.cell? ⟨q, 1, none⟩ = some (.int .i64 (ix2 : Nat)) := by rw [hr.blk.cell]; rfl
      have hkw := hb.block g hg
      have k0 : wr.cell? ⟨g, ix2 * 2, none⟩ = some (.string (t.tx s)) := by rw [cell_of_heap (hkw.trans (HLOW.out.block g hg).symm) _, HK2.out.cell]; exact (HC.out ix2 t ht).1
      have k1 : wr.cell? ⟨g, ix2 * 2 + 1, none⟩ = some (.int .i64 (t.pl : Nat)) := by rw [cell_of_heap (hkw.trans (HLOW.out.block g hg).symm) _, HK2.out.cell]; exact (HC.out ix2 t ht).2
      have hg2 : g < wr.heap.size := by have := hb.size; omega
      have hq2 : q < wr.heap.size := hr.blk.lt
      obtain ⟨TX2, eTX2⟩ : ∃ x, x = t.tx s := ⟨_, rfl⟩
      obtain ⟨TP, eTP⟩ : ∃ x, x = t.pl := ⟨_, rfl⟩
      rw [← eTX2] at k0
      rw [← eTP] at k1
      have HR := Lib.hid hr
      have HB := Lib.hid hb
      have HPART := Lib.hid hpart
      have HT := Lib.hid (And.intro ht (And.intro eTX2 eTP))
      have HBL2 := Lib.hid hbl2
      have HBI2 := Lib.hid hbits2
      clear hr hb hpart ht eTX2 eTP hkr hkw hbl2 hbits2 HR4 HB4 HW
      go_wp2_with fail
      go_region_law (fail)
      all_goals
        obtain ⟨w5, e5⟩ : ∃ x, x = (wr.alloc (.cells #[.string TX2, .int .i64 (TP : Nat)] 60)).drew := ⟨_, rfl⟩
        rw [← e5]
        obtain ⟨G, eG⟩ : ∃ x, x = wr.heap.size := ⟨_, rfl⟩
        rw [← eG]
        have hlow5 : Below wr.heap.size wr w5 := by
          rw [e5]
          have h9 : Below wr.heap.size wr (wr.alloc (.cells #[.string TX2, .int .i64 (TP : Nat)] 60)) := (Below.refl _ _).alloc (Nat.le_refl _) _
          exact ⟨h9.os, h9.tape, h9.output, h9.size, h9.block⟩
        have hb5 : Below B0 w w5 := HB.out.trans ⟨hlow5.os, hlow5.tape, hlow5.output, hlow5.size, fun b hb => hlow5.block b (by have := HB.out.size; omega)⟩
        have hr5 := HR.out.below hlow5
        have g0 : w5.cell? ⟨G, 0, none⟩ = some (.string TX2) := by rw [e5, eG]; exact (show Blk (wr.alloc (.cells #[.string TX2, .int .i64 (TP : Nat)] 60)) wr.heap.size 60 #[.string TX2, .int .i64 (TP : Nat)] from Blk.new _ _ _).cell 0
        have hB5 : B0 ≤ w5.heap.size := Nat.le_trans hB0 hb5.size
        have HR5 := Lib.hid hr5
        have HB5 := Lib.hid hb5
        clear e5 eG hlow5 hb5 hr5 HR HB c0 c1 k0 k1
        obtain ⟨ht, hTX2, hTP⟩ := HT.out
        have HLT := Lib.hid ht
        have HNO := Lib.hid (fun (w' : World) (hb : Below B0 w w') (hbk : Blk16 w' q (.slice (some ⟨g, 0, none⟩) LT.length cap) ix2) (hx : partF s p k r2 (t :: LT.drop (ix2 + 1)) = .error t.pl) => show Q (.returned (.bool false)) w' by
          rw [EQ.out]
          refine ⟨false, rfl, hb, ?_⟩
          simp only [Bool.false_eq_true, if_false]
          exact ⟨ix2, t, by rw [← HPART.out]; exact hx, ht, hbk⟩)
        clear HT ht
        cases t with
        | word a b =>
          have htok : TkOk s (.word a b) := HTOK.out _ (List.mem_of_getElem? HLT.out)
          have hTX' : TX2 = s.extract a b := hTX2
          have x1 : (TX2.toList == [59]) = false := by
            have h9 := str_eq TX2 bSemi
            rw [decide_eq_false (by rw [hTX']; exact word_ne s a b htok), bSemi_list] at h9
            exact h9
          have x2 : (TX2.toList == [63]) = false := by
            have h9 := str_eq TX2 bBad
            rw [decide_eq_false (by rw [hTX']; exact word_nb s a b htok), show bBad.toList = [63] from by rw [ByteArray.toList_eq]; rfl] at h9
            exact h9
          have x3 : (TX2.toList == []) = false := by
            have h9 := str_eq TX2 ByteArray.empty
            rw [decide_eq_false (by rw [hTX']; exact word_n0 s a b htok), show ByteArray.empty.toList = [] from by rw [ByteArray.toList_eq]; rfl] at h9
            exact h9
          have hsz : TX2.size ≤ 65536 := by rw [hTX']; have := (word_first s a b htok).2.1; omega
          have hgo := HEND.out ix2 (.word a b) HLT.out rfl
          rw [← ENL.out] at hgo
          have HFI := Lib.hid (fits_ok B0 w5 q _ ix2 p k TX2 r2 vb2 vs2 hp hsz (by omega) (fun h7 => by rcases HBL2.out (by omega) with h8 | h8; omega; exact h8) hB5 (by omega) HR5.out)
          have HST0 := Lib.hid (fun (hx : fitsF p k TX2 r2 = none) => show partF s p k r2 (.word a b :: LT.drop (ix2 + 1)) = .error a by rw [partF, ← hTX', hx])
          have HSTEP := Lib.hid (fun r1 (hx : fitsF p k TX2 r2 = some r1) => show partF s p k r2 (.word a b :: LT.drop (ix2 + 1)) = partF s p (k + 1) r1 (LT.drop (ix2 + 1)) by rw [partF, ← hTX', hx])
          clear hTX2 hTX' htok hsz hTP
          go_wp2_with fail
          refine HFI.out.mono ?_
          intro e w6 hq
          have hlow6 := hq.below HR5.out hB5
          have HB6 := Lib.hid (HB5.out.trans hlow6)
          obtain ⟨ok, rfl, ho, hm⟩ := hq
          cases ok
          · simp only [Bool.false_eq_true, if_false] at hm
            have HF := Lib.hid (HNO.out w6 HB6.out hm.2 (HST0.out hm.1))
            clear hm ho hlow6 HNO HSTEP HST0 HFI
            go_wp2_with fail
            first | exact HF.out | (go_ret; exact HF.out)
          · simp only [if_true] at hm
            obtain ⟨r3, vb3, vs3, hf, hr6⟩ := hm
            obtain ⟨i1, i2, i3⟩ := fits_inv p k TX2 r2 r3 hp hf
            have c1 : w6.cell? ⟨q, 1, none⟩ = some (.int .i64 (ix2 : Nat)) := by rw [hr6.blk.cell]; rfl
            have f1 : w6.frozen? ⟨q, 1, none⟩ = false := hr6.blk.free 1
            have HREL := Lib.hid (show ∃ (k' ix1 : Nat) (r1 : RSt) (vb1 vs1 : Value), Value.int .i64 ((k : Int) + 1) = .int .i64 (k' : Nat) ∧ k' ≤ ix1 ∧ ix1 < NL ∧ RdS B0 (w6.setCell ⟨q, 1, none⟩ (.int .i64 ((ix2 : Int) + 1))) q (.slice (some ⟨g, 0, none⟩) LT.length cap) ix1 r1 vb1 vs1 (decide (p = 7)) ∧ Below B0 w (w6.setCell ⟨q, 1, none⟩ (.int .i64 ((ix2 : Int) + 1))) ∧ r1.m.slots.length ≤ ix1 ∧ (2 ≤ p → (p = 2 ∧ k' = 0) ∨ 1 ≤ r1.m.bl) ∧ (p < 7 → r1.m.bits = r.m.bits) ∧ partF s p k' r1 (LT.drop ix1) = wholePart s p r (LT.drop ix) from by
              refine ⟨k + 1, ix2 + 1, r3, vb3, vs3, by go_num, by omega, hgo, hr6.at (ix2 + 1), ?_, by omega, fun h2 => .inr ?_, fun h7 => (i3 h7).trans (HBI2.out h7), ?_⟩
              · exact HB6.out.trans (((OnlyP.refl (fun b => b = q) w6).set (p := ⟨q, 1, none⟩) (.inl rfl) (.int .i64 ((ix2 : Int) + 1))).below (B := B0) (Nat.le_trans hB0 HB6.out.size) (fun x hx => by rw [hx]; exact hr6.hq))
              · rcases i1 with h8 | h8
                · rw [h8]
                  rcases HBL2.out h2 with h9 | h9
                  · rw [← h8]; rw [h9.1, h9.2] at hf; exact fits_bl hf
                  · exact h9
                · exact h8.2.2
              · have h9 := HPART.out
                rw [HSTEP.out r3 hf] at h9
                exact h9)
            clear hf hr6 i1 i2 i3 ho hlow6 HNO HSTEP HST0 HFI HPART
            go_wp2_with fail
            go_roundw
            case rel => exact HREL.out
            case measure => simp [intOf]; omega
        | semi a =>
          have x1 : (TX2.toList == [59]) = true := by rw [hTX2]; show (bSemi.toList == [59]) = true; rw [bSemi_list]; rfl
          have hgo := HEND.out ix2 (.semi a) HLT.out rfl
          obtain ⟨L5, eL5⟩ : ∃ x, x = r2.m.sl := ⟨_, rfl⟩
          have c5 : w5.cell? ⟨q, 5, none⟩ = some (.int .i64 (L5 : Nat)) := by rw [HR5.out.blk.cell, eL5]; rfl
          have HE := Lib.hid (ends_ok w5 q p k L5 r2 hp (by omega) eL5 (by rw [eL5]; exact HR5.out.sl) c5)
          have c1 : w5.cell? ⟨q, 1, none⟩ = some (.int .i64 (ix2 : Nat)) := by rw [HR5.out.blk.cell]; rfl
          have f1 : w5.frozen? ⟨q, 1, none⟩ = false := HR5.out.blk.free 1
          have hp2 : partF s p k r2 (.semi a :: LT.drop (ix2 + 1)) = if endsF p k r2 = true then .ok (r2, LT.drop (ix2 + 1)) else .error a := rfl
          have HP2 := Lib.hid hp2
          clear hTX2 hTP hp2 eL5 c5
          go_wp2_with fail
          refine HE.out.mono ?_
          rintro e w6 ⟨rfl, rfl⟩
          obtain ⟨ok, eok⟩ : ∃ x, x = endsF p k r2 := ⟨_, rfl⟩
          rw [← eok]
          cases ok
          · have HF := Lib.hid (HNO.out _ HB5.out HR5.out.b16 (by rw [HP2.out, ← eok]; rfl))
            clear HNO eok HE HP2
            go_wp2_with fail
            first | exact HF.out | (go_ret; exact HF.out)
          · have HF := Lib.hid (show Q (.returned (.bool true)) (w6.setCell ⟨q, 1, none⟩ (.int .i64 ((ix2 : Int) + 1))) by
              rw [EQ.out]
              refine ⟨true, rfl, ?_, ?_⟩
              · exact HB5.out.trans (((OnlyP.refl (fun b => b = q) w6).set (p := ⟨q, 1, none⟩) (.inl rfl) (.int .i64 ((ix2 : Int) + 1))).below (B := B0) hB5 (fun x hx => by rw [hx]; exact HR5.out.hq))
              · simp only [if_true]
                refine ⟨ix2 + 1, r2, vb2, vs2, ?_, hgo, HR5.out.at (ix2 + 1), by omega, fun h2 => ?_, HBI2.out⟩
                · rw [← HPART.out, HP2.out, ← eok]; rfl
                · rcases HBL2.out h2 with ⟨h8, h9⟩ | h8
                  · rw [h8, h9] at eok; exact absurd (show true = false from eok) (by decide)
                  · exact h8)
            clear HNO eok HE HP2 HPART
            go_wp2_with fail
            first | exact HF.out | (go_ret; exact HF.out)
        | bad a =>
          have x1 : (TX2.toList == [59]) = false := by rw [hTX2]; show (bBad.toList == [59]) = false; rw [ByteArray.toList_eq]; rfl
          have x2 : (TX2.toList == [63]) = true := by rw [hTX2]; show (bBad.toList == [63]) = true; rw [ByteArray.toList_eq]; rfl
          have x3 : (TX2.toList == []) = false := by rw [hTX2]; show (bBad.toList == []) = false; rw [ByteArray.toList_eq]; rfl
          have HF := Lib.hid (fun m => HNO.out (w5.drewN m) (below_drewN HB5.out m) (HR5.out.drewN m).b16 rfl)
          clear hTX2 HNO hTP HPART
          go_wp2_with fail
          first | exact HF.out 0 | (go_ret; exact HF.out 0) | (go_quiet (fail); go_wp2_with fail; first | exact HF.out _ | (go_ret; exact HF.out _))
        | fin a =>
          have x1 : (TX2.toList == [59]) = false := by rw [hTX2]; show (ByteArray.empty.toList == [59]) = false; rw [ByteArray.toList_eq]; rfl
          have x3 : (TX2.toList == []) = true := by rw [hTX2]; show (ByteArray.empty.toList == []) = true; rw [ByteArray.toList_eq]; rfl
          have HF := Lib.hid (fun m => HNO.out (w5.drewN m) (below_drewN HB5.out m) (HR5.out.drewN m).b16 rfl)
          clear hTX2 HNO hTP HPART
          go_wp2_with fail
          first | exact HF.out 0 | (go_ret; exact HF.out 0) | (go_quiet (fail); go_wp2_with fail; first | exact HF.out _ | (go_ret; exact HF.out _))
end Go.Proofs.YtbfebfeliddpnaaDoor
