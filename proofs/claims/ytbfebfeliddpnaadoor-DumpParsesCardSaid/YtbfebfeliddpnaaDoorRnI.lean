/- The reference's reader: what fits; parts 0, 1, 5, 3, 4, 7. -/
import Derived.Test.YtbfebfeliddpnaaDoorRnH
import Derived.Outline
import Derived.Deep.CutRange
namespace Go.Proofs.YtbfebfeliddpnaaDoor
open Go.RowKit
set_option linter.unusedVariables false
set_option linter.unusedSimpArgs false
theorem num_le {t : ByteArray} {v : Nat} (h : numOf t = some v) : v ≤ 4611686018427387904 := by
  unfold numOf at h
  split at h
  · rename_i hc
    simp only [Option.some.injEq] at h
    rw [← h]; exact hc.2.2.2.2
  · exact absurd h (by simp)
theorem FQ.no {B0 : Nat} {w : World} {q : Nat} {vL : Value} {ix p k : Nat} {t : ByteArray} {r : RSt} {vs : Value} {p7 : Bool} {w' : World} (ho : OnlyP (ownQ q vs) w w') (hf : fitsF p k t r = none) (hb : Blk16 w' q vL ix) : FQ B0 w q vL ix p k t r vs p7 (.returned (.bool false)) w' := by
  refine ⟨false, rfl, ho, ?_⟩
  simp only [Bool.false_eq_true, if_false]
  exact ⟨hf, hb⟩
theorem FQ.yes {B0 : Nat} {w : World} {q : Nat} {vL : Value} {ix p k : Nat} {t : ByteArray} {r : RSt} {vs : Value} {p7 : Bool} {w' : World} {r1 : RSt} {vb1 vs1 : Value} (ho : OnlyP (ownQ q vs) w w') (hf : fitsF p k t r = some r1) (hb : RdS B0 w' q vL ix r1 vb1 vs1 p7) : FQ B0 w q vL ix p k t r vs p7 (.returned (.bool true)) w' := by
  refine ⟨true, rfl, ho, ?_⟩
  simp only [if_true]
  exact ⟨r1, vb1, vs1, hf, hb⟩
theorem OnlyP.own {q : Nat} {vs : Value} {w w' : World} (h : OnlyP (fun b => b = q) w w') : OnlyP (ownQ q vs) w w' := h.mono (fun b hb => .inl hb)
set_option maxHeartbeats 4000000 in
set_option maxRecDepth 100000 in
theorem fits_0 (B0 : Nat) (w : World) (q : Nat) (vL : Value) (ix k : Nat) (t : ByteArray) (r : RSt) (vb vs : Value) (hs : t.size ≤ 65536) (hk : k ≤ 1000000) (h : RdS B0 w q vL ix r vb vs false) :
    Calls Tryd.prog 40 #[.pointer (some ⟨q, 0, none⟩), .int .i64 0, .int .i64 (k : Nat), .string t] w (FQ B0 w q vL ix 0 k t r vs false) := by
  obtain ⟨Q, eQ⟩ : ∃ Q, Q = FQ B0 w q vL ix 0 k t r vs false := ⟨_, rfl⟩
  rw [← eQ]
  have EQ := Lib.hid eQ
  have HC := Lib.hid (rnumber_ok w t hs)
  have H := Lib.hid h
  clear eQ h
  go_enter Tryd.func40, Tryd.ntmps40
  go_wp2_with fail
  refine HC.out.mono ?_
  rintro e w1 ⟨rfl, v, ok, rfl, hn, hv⟩
  clear HC
  by_cases hx : t = wOne
  · have hxx : (t.toList == [49]) = true := by rw [hx, ByteArray.toList_eq]; rfl
    by_cases hk0 : k = 0
    · have HF := Lib.hid (show Q (.returned (.bool true)) w by
        rw [EQ.out]
        exact FQ.yes (OnlyP.refl _ _) (by unfold fitsF; simp only; rw [if_pos hk0]; unfold isW; rw [if_pos hx]; rfl) H.out)
      have d1 : decide ((k : Int) = 0) = true := decide_eq_true (by omega)
      subst hk0
      clear hx H
      go_wp2_with fail
      first | exact HF.out | (go_ret; exact HF.out)
    · have HF := Lib.hid (show Q (.returned (.bool false)) w by
        rw [EQ.out]
        exact FQ.no (OnlyP.refl _ _) (by unfold fitsF; simp only; rw [if_neg hk0]) H.out.b16)
      have d1 : decide (k = 0) = false := decide_eq_false hk0
      clear hx H
      go_wp2_with fail
      first | exact HF.out | (go_ret; exact HF.out)
  · have hxx : (t.toList == [49]) = false := by
      have h9 := str_eq t wOne
      rw [decide_eq_false hx, show wOne.toList = [49] from by rw [ByteArray.toList_eq]; rfl] at h9
      exact h9
    have HF := Lib.hid (show Q (.returned (.bool false)) w by
      rw [EQ.out]
      exact FQ.no (OnlyP.refl _ _) (by unfold fitsF; simp only; unfold isW; rw [if_neg hx]; split <;> rfl) H.out.b16)
    clear hx H
    by_cases hk0 : k = 0
    · have d1 : decide (k = 0) = true := decide_eq_true hk0
      go_wp2_with fail
      first | exact HF.out | (go_ret; exact HF.out)
    · have d1 : decide (k = 0) = false := decide_eq_false hk0
      go_wp2_with fail
      first | exact HF.out | (go_ret; exact HF.out)
set_option maxHeartbeats 4000000 in
set_option maxRecDepth 100000 in
theorem fits_1 (B0 : Nat) (w : World) (q : Nat) (vL : Value) (ix k : Nat) (t : ByteArray) (r : RSt) (vb vs : Value) (hs : t.size ≤ 65536) (hk : k ≤ 1000000) (h : RdS B0 w q vL ix r vb vs false) :
    Calls Tryd.prog 40 #[.pointer (some ⟨q, 0, none⟩), .int .i64 1, .int .i64 (k : Nat), .string t] w (FQ B0 w q vL ix 1 k t r vs false) := by
  obtain ⟨Q, eQ⟩ : ∃ Q, Q = FQ B0 w q vL ix 1 k t r vs false := ⟨_, rfl⟩
  rw [← eQ]
  have EQ := Lib.hid eQ
  have HC := Lib.hid (rnumber_ok w t hs)
  have H := Lib.hid h
  have hB := h.blk
  have hc : w.cell? ⟨q, 2, none⟩ = some (.int .u64 (r.m.sq : Nat)) := by rw [h.blk.cell]; rfl
  have hf : w.frozen? ⟨q, 2, none⟩ = false := h.blk.free 2
  have HBQ := Lib.hid hB
  clear eQ h hB
  go_enter Tryd.func40, Tryd.ntmps40
  go_wp2_with fail
  refine HC.out.mono ?_
  rintro e w1 ⟨rfl, v, ok, rfl, hn, hv⟩
  clear HC
  obtain ⟨w1, e1⟩ : ∃ x, x = w.setCell ⟨q, 2, none⟩ (.int .u64 (v : Nat)) := ⟨_, rfl⟩
  have hO : OnlyP (ownQ q vs) w w1 := by rw [e1]; exact ((OnlyP.refl (fun b => b = q) w).set (p := ⟨q, 2, none⟩) (.inl rfl) _).own
  have HNO := Lib.hid (fun (hf : fitsF 1 k t r = none) => show Q (.returned (.bool false)) (w.setCell ⟨q, 2, none⟩ (.int .u64 (v : Nat))) by
    rw [EQ.out, ← e1]; exact FQ.no hO hf (by rw [e1]; exact H.out.b16.set 2 (Nat.le_refl _) _))
  have HYES := Lib.hid (fun (hf : fitsF 1 k t r = some { r with m := { r.m with sq := v } }) => show Q (.returned (.bool true)) (w.setCell ⟨q, 2, none⟩ (.int .u64 (v : Nat))) by
    rw [EQ.out, ← e1]; exact FQ.yes hO hf (H.out.keep (by rw [e1]; exact HBQ.out.set 2 _) (by rw [e1]; exact (OnlyP.refl (fun b => b = q) w).set (p := ⟨q, 2, none⟩) (.inl rfl) _) rfl (fun h => absurd h (by decide)) H.out.fl H.out.flag H.out.bl H.out.sl H.out.least))
  clear e1 hO w1 H HBQ
  by_cases hk0 : k = 0
  · cases ok
    · have HF := Lib.hid (HNO.out (by unfold fitsF; simp only; rw [if_pos hk0]; unfold inF; rw [hn]; rfl))
      have d1 : ((k : Int) == 0) = true := by rw [hk0]; rfl
      clear HNO HYES hn hk0
      go_wp2_with fail
      all_goals first | exact HF.out | (go_ret; exact HF.out)
    · have hv2 := num_le hn
      by_cases h1 : 1 ≤ v
      · have HF := Lib.hid (HYES.out (by unfold fitsF; simp only; rw [if_pos hk0]; unfold inF; rw [hn]; simp only [if_true]; rw [if_pos ⟨h1, hv2⟩]; rfl))
        have d1 : ((k : Int) == 0) = true := by rw [hk0]; rfl
        have d2 : decide ((1 : Int) ≤ (v : Nat)) = true := decide_eq_true (by omega)
        clear HNO HYES hn hk0
        go_wp2_with fail
        first | exact HF.out | (go_ret; exact HF.out)
      · have HF := Lib.hid (HNO.out (by unfold fitsF; simp only; rw [if_pos hk0]; unfold inF; rw [hn]; simp only [if_true]; rw [if_neg (fun h => h1 h.1)]; rfl))
        have d1 : ((k : Int) == 0) = true := by rw [hk0]; rfl
        have d2 : decide ((1 : Int) ≤ (v : Nat)) = false := decide_eq_false (by omega)
        clear HNO HYES hn hk0
        go_wp2_with fail
        first | exact HF.out | (go_ret; exact HF.out)
  · have HF := Lib.hid (HNO.out (by unfold fitsF; simp only; rw [if_neg hk0]))
    have d1 : ((k : Int) == 0) = false := by rw [beq_eq_false_iff_ne]; omega
    clear HNO HYES hn hk0
    go_wp2_with fail
    first | exact HF.out | (go_ret; exact HF.out)
set_option maxHeartbeats 4000000 in
set_option maxRecDepth 100000 in
theorem fits_5 (B0 : Nat) (w : World) (q : Nat) (vL : Value) (ix k : Nat) (t : ByteArray) (r : RSt) (vb vs : Value) (hs : t.size ≤ 65536) (hk : k ≤ 1000000) (h : RdS B0 w q vL ix r vb vs false) :
    Calls Tryd.prog 40 #[.pointer (some ⟨q, 0, none⟩), .int .i64 5, .int .i64 (k : Nat), .string t] w (FQ B0 w q vL ix 5 k t r vs false) := by
  obtain ⟨Q, eQ⟩ : ∃ Q, Q = FQ B0 w q vL ix 5 k t r vs false := ⟨_, rfl⟩
  rw [← eQ]
  have EQ := Lib.hid eQ
  have HC := Lib.hid (rnumber_ok w t hs)
  have H := Lib.hid h
  have hB := h.blk
  have hc : w.cell? ⟨q, 11, none⟩ = some (.int .i64 (r.m.mr : Nat)) := by rw [h.blk.cell]; rfl
  have hf : w.frozen? ⟨q, 11, none⟩ = false := h.blk.free 11
  have hc3 : w.cell? ⟨q, 3, none⟩ = some (.int .i64 (r.m.bl : Nat)) := by rw [h.blk.cell]; rfl
  obtain ⟨N, eN⟩ : ∃ x, x = r.m.bl := ⟨_, rfl⟩
  have hN := h.bl
  rw [← eN] at hc3 hN
  have HBQ := Lib.hid hB
  have EN := Lib.hid eN
  clear eQ h hB eN
  go_enter Tryd.func40, Tryd.ntmps40
  go_wp2_with fail
  refine HC.out.mono ?_
  rintro e w1 ⟨rfl, v, ok, rfl, hn, hv⟩
  clear HC
  have HNO := Lib.hid (fun (x : Value) (hf : fitsF 5 k t r = none) => show Q (.returned (.bool false)) (w.setCell ⟨q, 11, none⟩ x) by
    rw [EQ.out]; exact FQ.no ((OnlyP.refl (fun b => b = q) w).set (p := ⟨q, 11, none⟩) (.inl rfl) _).own hf (H.out.b16.set 11 (by decide) _))
  have HYES := Lib.hid (fun (hf : fitsF 5 k t r = some { r with m := { r.m with mr := v } }) => show Q (.returned (.bool true)) (w.setCell ⟨q, 11, none⟩ (.int .i64 (v : Nat))) by
    rw [EQ.out]; exact FQ.yes ((OnlyP.refl (fun b => b = q) w).set (p := ⟨q, 11, none⟩) (.inl rfl) _).own hf (H.out.keep (HBQ.out.set 11 _) ((OnlyP.refl (fun b => b = q) w).set (p := ⟨q, 11, none⟩) (.inl rfl) _) rfl (fun h => absurd h (by decide)) H.out.fl H.out.flag H.out.bl H.out.sl H.out.least))
  clear H HBQ
  by_cases hk0 : k = 0
  · cases ok
    · have HF := Lib.hid (fun x => HNO.out x (by unfold fitsF; simp only; rw [if_pos hk0]; unfold inF; rw [hn]; rfl))
      have d1 : ((k : Int) == 0) = true := by rw [hk0]; rfl
      clear HNO HYES hn hk0
      go_wp2_with fail
      all_goals first | exact HF.out _ | (go_ret; exact HF.out _)
    · have hv2 := num_le hn
      by_cases h1 : v ≤ N
      · have HF := Lib.hid (HYES.out (by unfold fitsF; simp only; rw [if_pos hk0]; unfold inF; rw [hn]; simp only [if_true]; rw [if_pos ⟨Nat.zero_le _, by rw [← EN.out]; exact h1⟩]; rfl))
        have d1 : ((k : Int) == 0) = true := by rw [hk0]; rfl
        have d2 : decide ((v : Int) ≤ (N : Nat)) = true := decide_eq_true (by omega)
        clear HNO HYES hn hk0
        go_wp2_with fail
        first | exact HF.out | (go_ret; exact HF.out)
      · have HF := Lib.hid (fun x => HNO.out x (by unfold fitsF; simp only; rw [if_pos hk0]; unfold inF; rw [hn]; simp only [if_true]; rw [if_neg (fun h => h1 (by rw [EN.out]; exact h.2))]; rfl))
        have d1 : ((k : Int) == 0) = true := by rw [hk0]; rfl
        have d2 : decide ((v : Int) ≤ (N : Nat)) = false := decide_eq_false (by omega)
        clear HNO HYES hn hk0
        go_wp2_with fail
        first | exact HF.out _ | (go_ret; exact HF.out _)
  · have HF := Lib.hid (fun x => HNO.out x (by unfold fitsF; simp only; rw [if_neg hk0]))
    have d1 : ((k : Int) == 0) = false := by rw [beq_eq_false_iff_ne]; omega
    clear HNO HYES hn hk0
    go_wp2_with fail
    first | exact HF.out _ | (go_ret; exact HF.out _)
set_option maxHeartbeats 4000000 in
set_option maxRecDepth 100000 in
theorem fits_3 (B0 : Nat) (w : World) (q : Nat) (vL : Value) (ix k : Nat) (t : ByteArray) (r : RSt) (vb vs : Value) (hs : t.size ≤ 65536) (hk : k ≤ 1000000) (h : RdS B0 w q vL ix r vb vs false) :
    Calls Tryd.prog 40 #[.pointer (some ⟨q, 0, none⟩), .int .i64 3, .int .i64 (k : Nat), .string t] w (FQ B0 w q vL ix 3 k t r vs false) := by
  obtain ⟨Q, eQ⟩ : ∃ Q, Q = FQ B0 w q vL ix 3 k t r vs false := ⟨_, rfl⟩
  rw [← eQ]
  have EQ := Lib.hid eQ
  have HC := Lib.hid (rnumber_ok w t hs)
  have H := Lib.hid h
  have hB := h.blk
  have HBQ := Lib.hid hB
  have HG := Lib.hid (show Calls Tryd.prog 69 #[.pointer (some ⟨q, 0, none⟩), .int .i64 (k : Nat), .string t] w Q by
    rw [eQ]
    rcases (by omega : k = 0 ∨ k = 1 ∨ k = 2 ∨ k = 3 ∨ 4 ≤ k) with rfl | rfl | rfl | rfl | h4
    · refine (gens_0 w q t hs (o := (r.m.g0 : Nat)) (by rw [h.blk.cell]; rfl) (h.blk.free 6)).mono ?_
      intro e w1 hq
      obtain ⟨v, b, hid, rfl, rfl⟩ := hq
      have hid' := hid (by decide)
      simp only [show (0 : Nat) < 4 from by decide, if_true]
      cases b
      · exact FQ.no ((OnlyP.refl (fun b => b = q) w).set (p := ⟨q, 6, none⟩) (.inl rfl) _).own (by unfold fitsF; simp only; rw [hid']; rfl) (h.b16.set 6 (by decide) _)
      · exact FQ.yes ((OnlyP.refl (fun b => b = q) w).set (p := ⟨q, 6, none⟩) (.inl rfl) _).own (by unfold fitsF; simp only; rw [hid']; rfl) (h.keep (r1 := { r with m := { r.m with g0 := v } }) (HBQ.out.set 6 _) ((OnlyP.refl (fun b => b = q) w).set (p := ⟨q, 6, none⟩) (.inl rfl) _) rfl (fun h => absurd h (by decide)) h.fl h.flag h.bl h.sl h.least)
    · refine (gens_1 w q t hs (o := (r.m.g1 : Nat)) (by rw [h.blk.cell]; rfl) (h.blk.free 7)).mono ?_
      intro e w1 hq
      obtain ⟨v, b, hid, rfl, rfl⟩ := hq
      have hid' := hid (by decide)
      simp only [show (1 : Nat) < 4 from by decide, if_true]
      cases b
      · exact FQ.no ((OnlyP.refl (fun b => b = q) w).set (p := ⟨q, 7, none⟩) (.inl rfl) _).own (by unfold fitsF; simp only; rw [hid']; rfl) (h.b16.set 7 (by decide) _)
      · exact FQ.yes ((OnlyP.refl (fun b => b = q) w).set (p := ⟨q, 7, none⟩) (.inl rfl) _).own (by unfold fitsF; simp only; rw [hid']; rfl) (h.keep (r1 := { r with m := { r.m with g1 := v } }) (HBQ.out.set 7 _) ((OnlyP.refl (fun b => b = q) w).set (p := ⟨q, 7, none⟩) (.inl rfl) _) rfl (fun h => absurd h (by decide)) h.fl h.flag h.bl h.sl h.least)
    · refine (gens_2 w q t hs (o := (r.m.g2 : Nat)) (by rw [h.blk.cell]; rfl) (h.blk.free 8)).mono ?_
      intro e w1 hq
      obtain ⟨v, b, hid, rfl, rfl⟩ := hq
      have hid' := hid (by decide)
      simp only [show (2 : Nat) < 4 from by decide, if_true]
      cases b
      · exact FQ.no ((OnlyP.refl (fun b => b = q) w).set (p := ⟨q, 8, none⟩) (.inl rfl) _).own (by unfold fitsF; simp only; rw [hid']; rfl) (h.b16.set 8 (by decide) _)
      · exact FQ.yes ((OnlyP.refl (fun b => b = q) w).set (p := ⟨q, 8, none⟩) (.inl rfl) _).own (by unfold fitsF; simp only; rw [hid']; rfl) (h.keep (r1 := { r with m := { r.m with g2 := v } }) (HBQ.out.set 8 _) ((OnlyP.refl (fun b => b = q) w).set (p := ⟨q, 8, none⟩) (.inl rfl) _) rfl (fun h => absurd h (by decide)) h.fl h.flag h.bl h.sl h.least)
    · refine (gens_3 w q t hs (o := (r.m.g3 : Nat)) (by rw [h.blk.cell]; rfl) (h.blk.free 9)).mono ?_
      intro e w1 hq
      obtain ⟨v, b, hid, rfl, rfl⟩ := hq
      have hid' := hid (by decide)
      simp only [show (3 : Nat) < 4 from by decide, if_true]
      cases b
      · exact FQ.no ((OnlyP.refl (fun b => b = q) w).set (p := ⟨q, 9, none⟩) (.inl rfl) _).own (by unfold fitsF; simp only; rw [hid']; rfl) (h.b16.set 9 (by decide) _)
      · exact FQ.yes ((OnlyP.refl (fun b => b = q) w).set (p := ⟨q, 9, none⟩) (.inl rfl) _).own (by unfold fitsF; simp only; rw [hid']; rfl) (h.keep (r1 := { r with m := { r.m with g3 := v } }) (HBQ.out.set 9 _) ((OnlyP.refl (fun b => b = q) w).set (p := ⟨q, 9, none⟩) (.inl rfl) _) rfl (fun h => absurd h (by decide)) h.fl h.flag h.bl h.sl h.least)
    · refine (gens_no w q k t h4 hk hs).mono ?_
      intro e w1 hq
      obtain ⟨v, b, hid, rfl, rfl⟩ := hq
      rw [if_neg (by omega), if_neg (by omega)]
      refine FQ.no (OnlyP.refl _ _) ?_ h.b16
      obtain ⟨k2, rfl⟩ : ∃ k2, k = k2 + 4 := ⟨k - 4, by omega⟩
      rfl)
  have HE := Lib.hid (show ∀ e w1, Q e w1 → (∃ ok, e = .returned (.bool ok)) by rw [eQ]; exact fun e w1 hq => let ⟨ok, he, _⟩ := hq; ⟨ok, he⟩)
  clear eQ h hB
  go_enter Tryd.func40, Tryd.ntmps40
  go_wp2_with fail
  refine HC.out.mono ?_
  rintro e w1 ⟨rfl, v, ok, rfl, hn, hv⟩
  clear HC
  go_wp2_with fail
  refine HG.out.mono ?_
  intro e w1 hq
  obtain ⟨ok, rfl⟩ := HE.out _ _ hq
  have HF := Lib.hid hq
  clear hq HG HE
  go_wp2_with fail
  first | exact HF.out | (go_ret; exact HF.out)
theorem Blk16.below {w w1 : World} {B q : Nat} {vL : Value} {ix : Nat} (h : Blk16 w q vL ix) (hb : Below B w w1) (hq : q < B) : Blk16 w1 q vL ix := by
  obtain ⟨cs, h1, h2, h3⟩ := h
  exact ⟨cs, h1.below hb hq, h2, h3⟩
theorem flagFrom_lt (t : ByteArray) : ∀ (n fl : Nat), 4 - fl = n → ∀ i, flagFrom t fl = some i → i < 4
  | n, fl, hn, i, h => by
    by_cases hl : fl < 4
    · rw [flagFrom, if_pos hl] at h
      split at h
      · simp only [Option.some.injEq] at h; omega
      · exact flagFrom_lt t (4 - (fl + 1)) (fl + 1) rfl i h
    · rw [flagFrom, if_neg hl] at h; exact absurd h (by simp)
termination_by n fl => 4 - fl
set_option maxHeartbeats 4000000 in
set_option maxRecDepth 100000 in
theorem fits_4 (B0 : Nat) (w : World) (q : Nat) (vL : Value) (ix k : Nat) (t : ByteArray) (r : RSt) (vb vs : Value) (hs : t.size ≤ 65536) (hk : k ≤ 1000000) (h : RdS B0 w q vL ix r vb vs false) :
    Calls Tryd.prog 40 #[.pointer (some ⟨q, 0, none⟩), .int .i64 4, .int .i64 (k : Nat), .string t] w (FQ B0 w q vL ix 4 k t r vs false) := by
  obtain ⟨Q, eQ⟩ : ∃ Q, Q = FQ B0 w q vL ix 4 k t r vs false := ⟨_, rfl⟩
  rw [← eQ]
  have EQ := Lib.hid eQ
  have HC := Lib.hid (rnumber_ok w t hs)
  have H := Lib.hid h
  have hql : q < w.heap.size := h.blk.lt
  have HG := Lib.hid (show Calls Tryd.prog 70 #[.pointer (some ⟨q, 0, none⟩), .string t] w Q by
    rw [eQ]
    refine (rflags_ok w q t r.m.fl r.flag h.fl h.flag (by rw [h.blk.cell]; rfl) (by rw [h.blk.cell]; rfl) (fun o => h.blk.free o) hql).mono ?_
    intro e w1 hq
    obtain ⟨w2, hb, hm⟩ := hq
    cases hfl : flagFrom t r.flag with
    | none =>
      rw [hfl] at hm
      obtain ⟨rfl, rfl⟩ := hm
      exact FQ.no (OnlyP.ofBelow hb) (by unfold fitsF; simp only; rw [hfl]; rfl) (h.b16.below hb hql)
    | some i =>
      rw [hfl] at hm
      obtain ⟨rfl, rfl⟩ := hm
      have hi := flagFrom_lt t _ _ rfl i hfl
      have ho : OnlyP (fun b => b = q) w ((w2.setCell ⟨q, 10, none⟩ (.int .u32 (r.m.fl ||| 2 ^ i : Nat))).setCell ⟨q, 14, none⟩ (.int .i64 (i + 1 : Nat))) := ((show OnlyP (fun b => b = q) w w2 from OnlyP.ofBelow hb).set (p := ⟨q, 10, none⟩) (.inl rfl) _).set (p := ⟨q, 14, none⟩) (.inl rfl) _
      refine FQ.yes ho.own (by unfold fitsF; simp only; rw [hfl]; rfl) (h.keep (r1 := { r with m := { r.m with fl := r.m.fl ||| 2 ^ i }, flag := i + 1 }) (((h.blk.below hb hql).set 10 _).set 14 _) ho rfl (fun h => absurd h (by decide)) ?_ ?_ h.bl h.sl h.least)
      · exact (or_flag r.m.fl i h.fl hi).2
      · show i + 1 ≤ 4; omega)
  have HE := Lib.hid (show ∀ e w1, Q e w1 → (∃ ok, e = .returned (.bool ok)) by rw [eQ]; exact fun e w1 hq => let ⟨ok, he, _⟩ := hq; ⟨ok, he⟩)
  clear eQ h hql
  go_enter Tryd.func40, Tryd.ntmps40
  go_wp2_with fail
  refine HC.out.mono ?_
  rintro e w1 ⟨rfl, v, ok, rfl, hn, hv⟩
  clear HC
  go_wp2_with fail
  refine HG.out.mono ?_
  intro e w1 hq
  obtain ⟨ok, rfl⟩ := HE.out _ _ hq
  have HF := Lib.hid hq
  clear hq HG HE
  go_wp2_with fail
  first | exact HF.out | (go_ret; exact HF.out)
set_option maxHeartbeats 4000000 in
set_option maxRecDepth 100000 in
theorem fits_7 (B0 : Nat) (w : World) (q : Nat) (vL : Value) (ix k : Nat) (t : ByteArray) (r : RSt) (vb vs : Value) (hs : t.size ≤ 65536) (hk : k ≤ 1000000) (h1 : 1 ≤ r.m.bl) (hB0 : B0 ≤ w.heap.size) (h : RdS B0 w q vL ix r vb vs true) :
    Calls Tryd.prog 40 #[.pointer (some ⟨q, 0, none⟩), .int .i64 7, .int .i64 (k : Nat), .string t] w (FQ B0 w q vL ix 7 k t r vs true) := by
  obtain ⟨Q, eQ⟩ : ∃ Q, Q = FQ B0 w q vL ix 7 k t r vs true := ⟨_, rfl⟩
  rw [← eQ]
  have EQ := Lib.hid eQ
  have HC := Lib.hid (rnumber_ok w t hs)
  have H := Lib.hid h
  have HG := Lib.hid (rbits_ok B0 w q vL ix k t r vb vs hs h1 hB0 h)
  rw [← eQ] at HG
  have HE := Lib.hid (show ∀ e w1, Q e w1 → (∃ ok, e = .returned (.bool ok)) by rw [eQ]; exact fun e w1 hq => let ⟨ok, he, _⟩ := hq; ⟨ok, he⟩)
  clear eQ h h1
  go_enter Tryd.func40, Tryd.ntmps40
  go_wp2_with fail
  refine HC.out.mono ?_
  rintro e w1 ⟨rfl, v, ok, rfl, hn, hv⟩
  clear HC
  go_wp2_with fail
  refine HG.out.mono ?_
  intro e w1 hq
  obtain ⟨ok, rfl⟩ := HE.out _ _ hq
  have HF := Lib.hid hq
  clear hq HG HE
  go_wp2_with fail
  first | exact HF.out | (go_ret; exact HF.out)
end Go.Proofs.YtbfebfeliddpnaaDoor
