/- The reference's reader: what fits; parts 2, 6. -/
import Derived.Test.YtbfebfeliddpnaaDoorRnI
import Derived.Outline
import Derived.Deep.CutRange
import Derived.Deep.AppendLies
namespace Go.Proofs.YtbfebfeliddpnaaDoor
open Go.RowKit
open Go.ChangeMaps
set_option linter.unusedVariables false
set_option linter.unusedSimpArgs false
set_option maxHeartbeats 1000000 in
theorem rextents_ok (bl : Nat) (w : World) (h : bl ≤ 65536) : Calls Tryd.prog 62 #[.int .i64 (bl : Nat)] w fun e w' => e = .returned (.int .i64 (exts bl : Nat)) ∧ w' = w := by
  have he : ((bl : Int) + 3) / 4 = ((exts bl : Nat) : Int) := by unfold exts; omega
  go_enter Tryd.func62, Tryd.ntmps62
  go_wp2_with fail
  first | exact ⟨rfl, rfl⟩ | (go_ret; exact ⟨rfl, rfl⟩)
set_option maxHeartbeats 4000000 in
set_option maxRecDepth 100000 in
theorem fits_2 (B0 : Nat) (w : World) (q : Nat) (vL : Value) (ix k : Nat) (t : ByteArray) (r : RSt) (vb vs : Value) (hs : t.size ≤ 65536) (hk : k ≤ 1000000) (h : RdS B0 w q vL ix r vb vs false) :
    Calls Tryd.prog 40 #[.pointer (some ⟨q, 0, none⟩), .int .i64 2, .int .i64 (k : Nat), .string t] w (FQ B0 w q vL ix 2 k t r vs false) := by
  obtain ⟨Q, eQ⟩ : ∃ Q, Q = FQ B0 w q vL ix 2 k t r vs false := ⟨_, rfl⟩
  rw [← eQ]
  have EQ := Lib.hid eQ
  have HC := Lib.hid (rnumber_ok w t hs)
  have H := Lib.hid h
  have hB := h.blk
  have HBQ := Lib.hid hB
  have HNONE := Lib.hid (fun (hn : numOf t = none) => show Q (.returned (.bool false)) w by
    rw [eQ]
    refine FQ.no (OnlyP.refl _ _) ?_ h.b16
    rcases (by omega : k = 0 ∨ k = 1 ∨ k = 2 ∨ 3 ≤ k) with rfl | rfl | rfl | h4
    · unfold fitsF; simp only; unfold inF; rw [hn]; rfl
    · unfold fitsF; simp only; unfold sizeF; rw [hn]; rfl
    · unfold fitsF; simp only; unfold inF; rw [hn]; rfl
    · obtain ⟨k2, rfl⟩ : ∃ k2, k = k2 + 3 := ⟨k - 3, by omega⟩
      rfl)
  have HG := Lib.hid (fun (v : Nat) (hn : numOf t = some v) => show Calls Tryd.prog 68 #[.pointer (some ⟨q, 0, none⟩), .int .i64 (k : Nat), .int .i64 (v : Nat)] w Q by
    have hv := num_le hn
    rw [eQ]
    rcases (by omega : k = 0 ∨ k = 1 ∨ k = 2 ∨ 3 ≤ k) with rfl | rfl | rfl | h4
    · refine (device_0 w q v hv (o := (r.m.bl : Nat)) (by rw [h.blk.cell]; rfl) (h.blk.free 3)).mono ?_
      intro e w1 hq
      obtain ⟨rfl, rfl⟩ := hq
      have ho : OnlyP (fun b => b = q) w (w.setCell ⟨q, 3, none⟩ (.int .i64 (v : Nat))) := (OnlyP.refl (fun b => b = q) w).set (p := ⟨q, 3, none⟩) (.inl rfl) _
      by_cases hc : 1 ≤ v ∧ v ≤ 4096
      · have hd : devB 0 v = true := by unfold devB; simp only; rw [decide_eq_true hc.1, decide_eq_true hc.2]; rfl
        rw [hd]
        exact FQ.yes ho.own (by unfold fitsF; simp only; unfold inF; rw [hn]; simp only; rw [if_pos hc]; rfl) (h.keep (r1 := { r with m := { r.m with bl := v } }) (HBQ.out.set 3 _) ho rfl (fun h => absurd h (by decide)) h.fl h.flag hc.2 h.sl h.least)
      · have hd : devB 0 v = false := by unfold devB; simp only; rw [← Bool.decide_and]; exact decide_eq_false hc
        rw [hd]
        exact FQ.no ho.own (by unfold fitsF; simp only; unfold inF; rw [hn]; simp only; rw [if_neg hc]; rfl) (h.b16.set 3 (by decide) _)
    · refine (device_1 w q v hv (o := (r.m.sz : Nat)) (by rw [h.blk.cell]; rfl) (h.blk.free 4)).mono ?_
      intro e w1 hq
      obtain ⟨rfl, rfl⟩ := hq
      have ho : OnlyP (fun b => b = q) w (w.setCell ⟨q, 4, none⟩ (.int .i64 (v : Nat))) := (OnlyP.refl (fun b => b = q) w).set (p := ⟨q, 4, none⟩) (.inl rfl) _
      by_cases hc : okSz v = true
      · have hd : devB 1 v = true := by unfold devB; simp only; exact hc
        rw [hd]
        exact FQ.yes ho.own (by unfold fitsF; simp only; unfold sizeF; rw [hn]; simp only; rw [if_pos hc]; rfl) (h.keep (r1 := { r with m := { r.m with sz := v } }) (HBQ.out.set 4 _) ho rfl (fun h => absurd h (by decide)) h.fl h.flag h.bl h.sl h.least)
      · have hd : devB 1 v = false := by unfold devB; simp only; exact Bool.eq_false_iff.2 hc
        rw [hd]
        exact FQ.no ho.own (by unfold fitsF; simp only; unfold sizeF; rw [hn]; simp only; rw [if_neg hc]; rfl) (h.b16.set 4 (by decide) _)
    · refine (device_2 w q v hv (o := (r.m.sl : Nat)) (by rw [h.blk.cell]; rfl) (h.blk.free 5)).mono ?_
      intro e w1 hq
      obtain ⟨rfl, rfl⟩ := hq
      have ho : OnlyP (fun b => b = q) w (w.setCell ⟨q, 5, none⟩ (.int .i64 (v : Nat))) := (OnlyP.refl (fun b => b = q) w).set (p := ⟨q, 5, none⟩) (.inl rfl) _
      by_cases hc : 1 ≤ v ∧ v ≤ 16
      · have hd : devB 2 v = true := by unfold devB; simp only; rw [decide_eq_true hc.1, decide_eq_true hc.2]; rfl
        rw [hd]
        exact FQ.yes ho.own (by unfold fitsF; simp only; unfold inF; rw [hn]; simp only; rw [if_pos hc]; rfl) (h.keep (r1 := { r with m := { r.m with sl := v } }) (HBQ.out.set 5 _) ho rfl (fun h => absurd h (by decide)) h.fl h.flag h.bl hc.2 h.least)
      · have hd : devB 2 v = false := by unfold devB; simp only; rw [← Bool.decide_and]; exact decide_eq_false hc
        rw [hd]
        exact FQ.no ho.own (by unfold fitsF; simp only; unfold inF; rw [hn]; simp only; rw [if_neg hc]; rfl) (h.b16.set 5 (by decide) _)
    · refine (device_no w q k v h4 hk hv).mono ?_
      intro e w1 hq
      obtain ⟨rfl, rfl⟩ := hq
      obtain ⟨k2, rfl⟩ : ∃ k2, k = k2 + 3 := ⟨k - 3, by omega⟩
      have e1 : devC (k2 + 3) v = none := by unfold devC; rw [if_neg (by omega)]
      have e2 : devB (k2 + 3) v = false := rfl
      rw [e1, e2]
      exact FQ.no (OnlyP.refl _ _) rfl h.b16)
  have HE := Lib.hid (show ∀ e w1, Q e w1 → (∃ ok, e = .returned (.bool ok)) by rw [eQ]; exact fun e w1 hq => let ⟨ok, he, _⟩ := hq; ⟨ok, he⟩)
  clear eQ h hB HBQ
  go_enter Tryd.func40, Tryd.ntmps40
  go_wp2_with fail
  refine HC.out.mono ?_
  rintro e w1 ⟨rfl, v, ok, rfl, hn, hv⟩
  clear HC
  cases ok
  · have HF := Lib.hid (HNONE.out hn)
    clear HG HNONE HE hn
    go_wp2_with fail
    first | exact HF.out | (go_ret; exact HF.out)
  · have hv2 := num_le hn
    have HG2 := Lib.hid (HG.out v hn)
    clear HG HNONE hn
    go_wp2_with fail
    refine HG2.out.mono ?_
    intro e w1 hq
    obtain ⟨ok, rfl⟩ := HE.out _ _ hq
    have HF := Lib.hid hq
    clear hq HG2 HE
    go_wp2_with fail
    first | exact HF.out | (go_ret; exact HF.out)
/-- The reader's slots behind one more. -/
theorem RdS.more {B0 : Nat} {w w2 : World} {q : Nat} {vL : Value} {ix : Nat} {r : RSt} {vb vs v' : Value} {x : Int} (h : RdS B0 w q vL ix r vb vs false)
    (hown : w2.ownsRow B0 3 1 v' (r.m.slots.length + 1) (r.m.slots.map (Value.int .i64) ++ [.int .i64 x])) (hg : w.grownBy w2 vs.ownBlock) :
    Blk w2 q 57 (rArr19 vL ix r vb vs) ∧ OnlyP (ownQ q vs) w (w2.setCell ⟨q, 13, none⟩ v') ∧ RdS B0 (w2.setCell ⟨q, 13, none⟩ v') q vL ix { r with m := { r.m with slots := r.m.slots ++ [x] } } vb v' false := by
  have hb2 : Blk w2 q 57 (rArr19 vL ix r vb vs) := (hg.block q h.blk.lt (fun e => by
    obtain ⟨cur, hc⟩ := own_blk h.slots e.symm
    exact reader_ne h.blk hc (by decide) rfl)).trans h.blk
  have ho2 : OnlyP (ownQ q vs) w w2 := (OnlyP.refl (ownQ q vs) w).grown hg (fun g hgg => .inl (.inr hgg))
  have hos : OnlyP (fun b => b = q) w2 (w2.setCell ⟨q, 13, none⟩ v') := (OnlyP.refl (fun b => b = q) w2).set (p := ⟨q, 13, none⟩) (.inl rfl) _
  refine ⟨hb2, ho2.set (p := ⟨q, 13, none⟩) (.inl (.inl rfl)) _, ⟨hb2.set 13 v', h.hq, ?_, h.bits, h.fl, h.flag, h.bl, h.sl, h.least⟩⟩
  show World.ownsRow _ B0 3 1 v' (r.m.slots ++ [x]).length ((r.m.slots ++ [x]).map (Value.int .i64))
  rw [List.length_append, List.map_append]
  refine own_keep2 hown (fun g hgg => ?_)
  obtain ⟨cur, hc⟩ := own_blk hown hgg
  exact hos.block g hc.lt (reader_ne hb2 hc (by decide))
set_option maxHeartbeats 4000000 in
set_option maxRecDepth 100000 in
theorem fits_6 (B0 : Nat) (w : World) (q : Nat) (vL : Value) (ix k : Nat) (t : ByteArray) (r : RSt) (vb vs : Value) (hs : t.size ≤ 65536) (hk : k ≤ 1000000) (hB0 : B0 ≤ w.heap.size) (hsl : r.m.slots.length ≤ 1000000) (h : RdS B0 w q vL ix r vb vs false) :
    Calls Tryd.prog 40 #[.pointer (some ⟨q, 0, none⟩), .int .i64 6, .int .i64 (k : Nat), .string t] w (FQ B0 w q vL ix 6 k t r vs false) := by
  obtain ⟨Q, eQ⟩ : ∃ Q, Q = FQ B0 w q vL ix 6 k t r vs false := ⟨_, rfl⟩
  rw [← eQ]
  have EQ := Lib.hid eQ
  have HC := Lib.hid (rnumber_ok w t hs)
  have H := Lib.hid h
  have c13 : w.cell? ⟨q, 13, none⟩ = some vs := by rw [h.blk.cell]; rfl
  obtain ⟨N, eN⟩ : ∃ x, x = r.m.bl := ⟨_, rfl⟩
  obtain ⟨L, eL⟩ : ∃ x, x = r.m.sl := ⟨_, rfl⟩
  obtain ⟨u, eu⟩ : ∃ x, x = r.m.slots.length := ⟨_, rfl⟩
  obtain ⟨XS, eX⟩ : ∃ x, x = r.m.slots.map (Value.int .i64) := ⟨_, rfl⟩
  have hN := h.bl
  have hL := h.sl
  have c5 : w.cell? ⟨q, 5, none⟩ = some (.int .i64 (L : Nat)) := by rw [h.blk.cell, eL]; rfl
  have hown := h.slots
  have HM := Lib.hid (fun (v' : Value) (w2 : World) (x : Int) (ho : w2.ownsRow B0 3 1 v' (u + 1) (XS ++ [.int .i64 x])) (hg : w.grownBy w2 vs.ownBlock) => RdS.more (x := x) h (by rw [eu, eX] at ho; exact ho) hg)
  rw [← eN] at hN
  rw [← eL] at hL
  rw [← eu] at hsl
  rw [← eu, ← eX] at hown
  have HOWN := Lib.hid hown
  have EN := Lib.hid eN
  have EL := Lib.hid eL
  have HE := Lib.hid (fun W => rextents_ok N W (by omega))
  have HNO := Lib.hid (fun (w' : World) (rr : RSt) (vb1 vs1 : Value) (ho : OnlyP (ownQ q vs) w w') (hr : RdS B0 w' q vL ix rr vb1 vs1 false) (hf : fitsF 6 k t r = none) => show Q (.returned (.bool false)) w' by rw [eQ]; exact FQ.no ho hf hr.b16)
  have HYES := Lib.hid (fun (w' : World) (rr : RSt) (vb1 vs1 : Value) (ho : OnlyP (ownQ q vs) w w') (hr : RdS B0 w' q vL ix rr vb1 vs1 false) (hf : fitsF 6 k t r = some rr) => show Q (.returned (.bool true)) w' by rw [eQ]; exact FQ.yes ho hf hr)
  clear eQ h hown eu eX eN eL H
  go_enter Tryd.func40, Tryd.ntmps40
  go_wp2_with fail
  refine HC.out.mono ?_
  rintro e w1 ⟨rfl, v, ok, rfl, hn, hv⟩
  clear HC
  by_cases hd : t = bDash ∧ k < L
  · obtain ⟨hd1, hd2⟩ := hd
    have hxx : (t.toList == [45]) = true := by rw [hd1, ByteArray.toList_eq]; rfl
    have d1 : decide ((k : Int) < (L : Nat)) = true := decide_eq_true (by omega)
    have d1n : decide (k < L) = true := decide_eq_true (by omega)
    have hf : fitsF 6 k t r = some { r with m := { r.m with slots := r.m.slots ++ [-1] } } := by unfold fitsF; simp only; rw [← EL.out, if_pos hd2]; unfold slotF; rw [if_pos hd1]; rfl
    have HFI := Lib.hid hf
    clear hd1 hd2 hf hn HNO HE
    go_wp2_with (with_reducible refine app1 rfl (.tmp 107) (.tmp 108) 29 rfl B0 3 (.int .i64 0) 8 Tryd.underlying29 info_int rfl vs u XS rfl HOWN.out (.int .i64 (-1)) 1 rfl rfl ?c1 ?c2 ?c3 ?_)
    case c1 => unfold maxLen; omega
    case c2 => omega
    case c3 => exact hB0
    intro v4 w4 ho4 hg4
    obtain ⟨g4, cp4, rfl, _⟩ := ho4.form (by omega)
    obtain ⟨hb4, hO4, hR4⟩ := HM.out _ w4 _ ho4 hg4
    have c13' : w4.cell? ⟨q, 13, none⟩ = some vs := by rw [hb4.cell]; rfl
    have f13' : w4.frozen? ⟨q, 13, none⟩ = false := hb4.free 13
    have c3' : w4.cell? ⟨q, 3, none⟩ = some (.int .i64 (N : Nat)) := by rw [hb4.cell, EN.out]; rfl
    have c5' : w4.cell? ⟨q, 5, none⟩ = some (.int .i64 (L : Nat)) := by rw [hb4.cell, EL.out]; rfl
    have HF := Lib.hid (HYES.out _ _ _ _ hO4 hR4 HFI.out)
    clear hb4 hO4 hR4 ho4 hg4 HM HYES HFI HOWN
    go_wp2_with fail
    first | exact HF.out | (go_ret; exact HF.out)
  by_cases hd1 : t = bDash
  · have hxx : (t.toList == [45]) = true := by rw [hd1, ByteArray.toList_eq]; rfl
    have hk2 : ¬ k < L := fun hc => hd ⟨hd1, hc⟩
    have d1 : decide ((k : Int) < (L : Nat)) = false := decide_eq_false (by omega)
    have d1n : decide (k < L) = false := decide_eq_false (by omega)
    have hf : fitsF 6 k t r = none := by unfold fitsF; simp only; rw [← EL.out, if_neg hk2]
    have HFI := Lib.hid hf
    clear hd1 hf hn HYES HE hd
    go_wp2_with (with_reducible refine app1 rfl (.tmp 118) (.tmp 121) 29 rfl B0 3 (.int .i64 0) 8 Tryd.underlying29 info_int rfl vs u XS rfl HOWN.out (.int .i64 (wrap64 (v : Nat))) 1 rfl rfl ?c1 ?c2 ?c3 ?_)
    case c1 => unfold maxLen; omega
    case c2 => omega
    case c3 => exact hB0
    intro v4 w4 ho4 hg4
    obtain ⟨g4, cp4, rfl, _⟩ := ho4.form (by omega)
    obtain ⟨hb4, hO4, hR4⟩ := HM.out _ w4 _ ho4 hg4
    have c13' : w4.cell? ⟨q, 13, none⟩ = some vs := by rw [hb4.cell]; rfl
    have f13' : w4.frozen? ⟨q, 13, none⟩ = false := hb4.free 13
    have c3' : w4.cell? ⟨q, 3, none⟩ = some (.int .i64 (N : Nat)) := by rw [hb4.cell, EN.out]; rfl
    have c5' : w4.cell? ⟨q, 5, none⟩ = some (.int .i64 (L : Nat)) := by rw [hb4.cell, EL.out]; rfl
    have HF := Lib.hid (HNO.out _ _ _ _ hO4 hR4 HFI.out)
    clear hb4 hO4 hR4 ho4 hg4 HM HNO HFI HOWN hk2
    go_wp2_with fail
    first | exact HF.out | (go_ret; exact HF.out)
  · have hxx : (t.toList == [45]) = false := by
      have h9 := str_eq t bDash
      rw [decide_eq_false hd1, show bDash.toList = [45] from by rw [ByteArray.toList_eq]; rfl] at h9
      exact h9
    clear hd
    by_cases hk2 : k < L
    · have d1 : decide ((k : Int) < (L : Nat)) = true := decide_eq_true (by omega)
      have d1n : decide (k < L) = true := decide_eq_true (by omega)
      cases ok
      · have hf : fitsF 6 k t r = none := by unfold fitsF; simp only; rw [← EL.out, if_pos hk2]; unfold slotF; rw [if_neg hd1, hn]; rfl
        have HFI := Lib.hid hf
        clear hd1 hf hn HYES HE
        go_wp2_with (with_reducible refine app1 rfl (.tmp 118) (.tmp 121) 29 rfl B0 3 (.int .i64 0) 8 Tryd.underlying29 info_int rfl vs u XS rfl HOWN.out (.int .i64 (wrap64 (v : Nat))) 1 rfl rfl ?c1 ?c2 ?c3 ?_)
        case c1 => unfold maxLen; omega
        case c2 => omega
        case c3 => exact hB0
        intro v4 w4 ho4 hg4
        obtain ⟨g4, cp4, rfl, _⟩ := ho4.form (by omega)
        obtain ⟨hb4, hO4, hR4⟩ := HM.out _ w4 _ ho4 hg4
        have c13' : w4.cell? ⟨q, 13, none⟩ = some vs := by rw [hb4.cell]; rfl
        have f13' : w4.frozen? ⟨q, 13, none⟩ = false := hb4.free 13
        have c3' : w4.cell? ⟨q, 3, none⟩ = some (.int .i64 (N : Nat)) := by rw [hb4.cell, EN.out]; rfl
        have c5' : w4.cell? ⟨q, 5, none⟩ = some (.int .i64 (L : Nat)) := by rw [hb4.cell, EL.out]; rfl
        have HF := Lib.hid (HNO.out _ _ _ _ hO4 hR4 HFI.out)
        clear hb4 hO4 hR4 ho4 hg4 HM HNO HFI HOWN hk2
        go_wp2_with fail
        first | exact HF.out | (go_ret; exact HF.out)
      · have hv2 := num_le hn
        by_cases hlt : v < exts N
        · have hf : fitsF 6 k t r = some { r with m := { r.m with slots := r.m.slots ++ [(v : Int)] } } := by unfold fitsF; simp only; rw [← EL.out, if_pos hk2, ← EN.out]; unfold slotF; rw [if_neg hd1, hn]; simp only [if_true]; rw [if_pos hlt]; rfl
          have HFI := Lib.hid hf
          have d2 : decide ((v : Int) < (exts N : Nat)) = true := decide_eq_true (by omega)
          have d2n : decide (v < exts N) = true := decide_eq_true (by omega)
          clear hd1 hf hn HNO
          go_wp2_with (with_reducible refine app1 rfl (.tmp 118) (.tmp 121) 29 rfl B0 3 (.int .i64 0) 8 Tryd.underlying29 info_int rfl vs u XS rfl HOWN.out (.int .i64 (v : Nat)) 1 rfl rfl ?c1 ?c2 ?c3 ?_)
          case c1 => unfold maxLen; omega
          case c2 => omega
          case c3 => exact hB0
          intro v4 w4 ho4 hg4
          obtain ⟨g4, cp4, rfl, _⟩ := ho4.form (by omega)
          obtain ⟨hb4, hO4, hR4⟩ := HM.out _ w4 _ ho4 hg4
          have c13' : w4.cell? ⟨q, 13, none⟩ = some vs := by rw [hb4.cell]; rfl
          have f13' : w4.frozen? ⟨q, 13, none⟩ = false := hb4.free 13
          have c3' : w4.cell? ⟨q, 3, none⟩ = some (.int .i64 (N : Nat)) := by rw [hb4.cell, EN.out]; rfl
          have c5' : w4.cell? ⟨q, 5, none⟩ = some (.int .i64 (L : Nat)) := by rw [hb4.cell, EL.out]; rfl
          have HF := Lib.hid (HYES.out _ _ _ _ hO4 hR4 HFI.out)
          clear hb4 hO4 hR4 ho4 hg4 HM HYES HFI HOWN hk2
          go_wp2_with fail
          refine (HE.out _).mono ?_
          rintro e w5 ⟨rfl, rfl⟩
          clear HE
          go_wp2_with fail
          first | exact HF.out | (go_ret; exact HF.out)
        · have hf : fitsF 6 k t r = none := by unfold fitsF; simp only; rw [← EL.out, if_pos hk2, ← EN.out]; unfold slotF; rw [if_neg hd1, hn]; simp only [if_true]; rw [if_neg hlt]; rfl
          have HFI := Lib.hid hf
          have d2 : decide ((v : Int) < (exts N : Nat)) = false := decide_eq_false (by omega)
          have d2n : decide (v < exts N) = false := decide_eq_false (by omega)
          clear hd1 hf hn HYES
          go_wp2_with (with_reducible refine app1 rfl (.tmp 118) (.tmp 121) 29 rfl B0 3 (.int .i64 0) 8 Tryd.underlying29 info_int rfl vs u XS rfl HOWN.out (.int .i64 (v : Nat)) 1 rfl rfl ?c1 ?c2 ?c3 ?_)
          case c1 => unfold maxLen; omega
          case c2 => omega
          case c3 => exact hB0
          intro v4 w4 ho4 hg4
          obtain ⟨g4, cp4, rfl, _⟩ := ho4.form (by omega)
          obtain ⟨hb4, hO4, hR4⟩ := HM.out _ w4 _ ho4 hg4
          have c13' : w4.cell? ⟨q, 13, none⟩ = some vs := by rw [hb4.cell]; rfl
          have f13' : w4.frozen? ⟨q, 13, none⟩ = false := hb4.free 13
          have c3' : w4.cell? ⟨q, 3, none⟩ = some (.int .i64 (N : Nat)) := by rw [hb4.cell, EN.out]; rfl
          have c5' : w4.cell? ⟨q, 5, none⟩ = some (.int .i64 (L : Nat)) := by rw [hb4.cell, EL.out]; rfl
          have HF := Lib.hid (HNO.out _ _ _ _ hO4 hR4 HFI.out)
          clear hb4 hO4 hR4 ho4 hg4 HM HNO HFI HOWN hk2
          go_wp2_with fail
          refine (HE.out _).mono ?_
          rintro e w5 ⟨rfl, rfl⟩
          clear HE
          go_wp2_with fail
          first | exact HF.out | (go_ret; exact HF.out)
    · have d1 : decide ((k : Int) < (L : Nat)) = false := decide_eq_false (by omega)
      have d1n : decide (k < L) = false := decide_eq_false (by omega)
      have hf : fitsF 6 k t r = none := by unfold fitsF; simp only; rw [← EL.out, if_neg hk2]
      have HFI := Lib.hid hf
      clear hd1 hf hn HYES HE
      go_wp2_with (with_reducible refine app1 rfl (.tmp 118) (.tmp 121) 29 rfl B0 3 (.int .i64 0) 8 Tryd.underlying29 info_int rfl vs u XS rfl HOWN.out (.int .i64 (wrap64 (v : Nat))) 1 rfl rfl ?c1 ?c2 ?c3 ?_)
      case c1 => unfold maxLen; omega
      case c2 => omega
      case c3 => exact hB0
      intro v4 w4 ho4 hg4
      obtain ⟨g4, cp4, rfl, _⟩ := ho4.form (by omega)
      obtain ⟨hb4, hO4, hR4⟩ := HM.out _ w4 _ ho4 hg4
      have c13' : w4.cell? ⟨q, 13, none⟩ = some vs := by rw [hb4.cell]; rfl
      have f13' : w4.frozen? ⟨q, 13, none⟩ = false := hb4.free 13
      have c3' : w4.cell? ⟨q, 3, none⟩ = some (.int .i64 (N : Nat)) := by rw [hb4.cell, EN.out]; rfl
      have c5' : w4.cell? ⟨q, 5, none⟩ = some (.int .i64 (L : Nat)) := by rw [hb4.cell, EL.out]; rfl
      have HF := Lib.hid (HNO.out _ _ _ _ hO4 hR4 HFI.out)
      clear hb4 hO4 hR4 ho4 hg4 HM HNO HFI HOWN hk2
      go_wp2_with fail
      first | exact HF.out | (go_ret; exact HF.out)
end Go.Proofs.YtbfebfeliddpnaaDoor
