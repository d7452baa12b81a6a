/- The reference's reader in the world; its bits. -/
import Derived.Test.YtbfebfeliddpnaaDoorRnG
import Derived.Outline
import Derived.Deep.RegionHeld3
import Derived.Deep.CutRange
namespace Go.Proofs.YtbfebfeliddpnaaDoor
open Go.RowKit
set_option linter.unusedVariables false
set_option linter.unusedSimpArgs false
def rArr19 (vL : Value) (ix : Nat) (r : RSt) (vb vs : Value) : Array Value := #[vL, .int .i64 (ix : Nat), .int .u64 (r.m.sq : Nat), .int .i64 (r.m.bl : Nat), .int .i64 (r.m.sz : Nat), .int .i64 (r.m.sl : Nat), .int .u64 (r.m.g0 : Nat), .int .u64 (r.m.g1 : Nat), .int .u64 (r.m.g2 : Nat), .int .u64 (r.m.g3 : Nat), .int .u32 (r.m.fl : Nat), .int .i64 (r.m.mr : Nat), vb, vs, .int .i64 (r.flag : Nat), .int .i64 ((r.least : Int) - 2)]
/-- Block q holds the reader: its tokens vL, the place ix among them, the state r. -/
structure RdS (B0 : Nat) (w : World) (q : Nat) (vL : Value) (ix : Nat) (r : RSt) (vb vs : Value) (p7 : Bool) : Prop where
  blk : Blk w q 57 (rArr19 vL ix r vb vs)
  hq : B0 ≤ q
  slots : w.ownsRow B0 3 1 vs r.m.slots.length (r.m.slots.map (Value.int .i64))
  bits : if p7 = true then WordsIn B0 w vb r.m.bl r.m.bits else vb = .slice none 0 0
  fl : r.m.fl < 16
  flag : r.flag ≤ 4
  bl : r.m.bl ≤ 4096
  sl : r.m.sl ≤ 16
  least : r.least ≤ 5000
/-- Behind a call that failed: the tokens and the place stand. -/
def Blk16 (w : World) (q : Nat) (vL : Value) (ix : Nat) : Prop := ∃ cs, Blk w q 57 cs ∧ cs[0]? = some vL ∧ cs[1]? = some (.int .i64 (ix : Nat))
theorem RdS.b16 {B0 : Nat} {w : World} {q : Nat} {vL : Value} {ix : Nat} {r : RSt} {vb vs : Value} {p7 : Bool} (h : RdS B0 w q vL ix r vb vs p7) : Blk16 w q vL ix := ⟨_, h.blk, rfl, rfl⟩
theorem Blk16.set {w : World} {q : Nat} {vL : Value} {ix : Nat} (h : Blk16 w q vL ix) (i : Nat) (hi : 2 ≤ i) (v : Value) : Blk16 (w.setCell ⟨q, i, none⟩ v) q vL ix := by
  obtain ⟨cs, h1, h2, h3⟩ := h
  refine ⟨_, h1.set i v, ?_, ?_⟩
  · rw [Array.getElem?_setIfInBounds, if_neg (by omega)]; exact h2
  · rw [Array.getElem?_setIfInBounds, if_neg (by omega)]; exact h3
def ownQ (q : Nat) (vs : Value) (b : Nat) : Prop := b = q ∨ vs.ownBlock = some b
def FQ (B0 : Nat) (w : World) (q : Nat) (vL : Value) (ix p k : Nat) (t : ByteArray) (r : RSt) (vs : Value) (p7 : Bool) (e : Ending) (w' : World) : Prop :=
  ∃ ok, e = .returned (.bool ok) ∧ OnlyP (ownQ q vs) w w' ∧ if ok = true then ∃ r1 vb1 vs1, fitsF p k t r = some r1 ∧ RdS B0 w' q vL ix r1 vb1 vs1 p7 else fitsF p k t r = none ∧ Blk16 w' q vL ix
theorem reader_ne {w : World} {q g : Nat} {cs : Array Value} {t : TypeId} {cs2 : Array Value} (h : Blk w q 57 cs) (h2 : Blk w g t cs2) (ht : t ≠ 57) : g ≠ q := by
  rintro rfl
  unfold Blk at h h2
  rw [h] at h2
  simp only [Option.some.injEq, Obj.cells.injEq] at h2
  exact ht h2.2.1.symm
theorem own_blk {w : World} {B : Nat} {e : TypeId} {k n : Nat} {v : Value} {xs : List Value} (h : w.ownsRow B e k v n xs) {g : Nat} (hg : v.ownBlock = some g) : ∃ cur, Blk w g e cur := by
  rcases h.2 with ⟨rfl, h0⟩ | ⟨g', cap, cur, rfl, _, hb, _⟩
  · simp [Value.ownBlock] at hg
  · simp only [Value.ownBlock, Option.some.injEq] at hg; subst hg; exact ⟨cur, hb⟩
theorem RowA.blk {k : IntKind} {t : TypeId} {w : World} {B n : Nat} {f : Nat → Int} (h : RowA k t w B n f) : ∃ cur, Blk w B t cur := let ⟨c, h, _⟩ := h; ⟨c, h⟩
/-- Only the reader's own cells are laid anew. -/
theorem RdS.keep {B0 : Nat} {w w1 : World} {q : Nat} {vL : Value} {ix ix1 : Nat} {r r1 : RSt} {vb vs : Value} {p7 : Bool} (h : RdS B0 w q vL ix r vb vs p7) (hb : Blk w1 q 57 (rArr19 vL ix1 r1 vb vs))
    (ho : OnlyP (fun b => b = q) w w1) (h1 : r1.m.slots = r.m.slots) (h2 : p7 = true → r1.m.bl = r.m.bl ∧ r1.m.bits = r.m.bits) (h3 : r1.m.fl < 16) (h4 : r1.flag ≤ 4) (h5 : r1.m.bl ≤ 4096) (h6 : r1.m.sl ≤ 16) (h7 : r1.least ≤ 5000) : RdS B0 w1 q vL ix1 r1 vb vs p7 := by
  refine ⟨hb, h.hq, ?_, ?_, h3, h4, h5, h6, h7⟩
  · rw [h1]
    refine own_keep2 h.slots (fun g hg => ?_)
    obtain ⟨cur, hc⟩ := own_blk h.slots hg
    exact ho.block g hc.lt (reader_ne h.blk hc (by decide))
  · have hbt := h.bits
    cases p7
    · exact hbt
    · simp only [if_true] at hbt ⊢
      obtain ⟨B, e, hl, hr⟩ := hbt
      rw [(h2 rfl).1, (h2 rfl).2]
      obtain ⟨cur, hc⟩ := hr.blk
      exact ⟨B, e, hl, hr.keep (ho.block B hr.lt (reader_ne h.blk hc (by decide)))⟩
set_option maxHeartbeats 8000000 in
set_option maxRecDepth 100000 in
theorem rbits_ok (B0 : Nat) (w : World) (q : Nat) (vL : Value) (ix k : Nat) (t : ByteArray) (r : RSt) (vb vs : Value) (hs : t.size ≤ 65536) (h1 : 1 ≤ r.m.bl) (hB0 : B0 ≤ w.heap.size) (h : RdS B0 w q vL ix r vb vs true) :
    Calls Tryd.prog 71 #[.pointer (some ⟨q, 0, none⟩), .string t] w (FQ B0 w q vL ix 7 k t r vs true) := by
  obtain ⟨Q, eQ⟩ : ∃ Q, Q = FQ B0 w q vL ix 7 k t r vs true := ⟨_, rfl⟩
  rw [← eQ]
  have EQ := Lib.hid eQ
  have hbits := h.bits
  simp only [if_true] at hbits
  obtain ⟨B, rfl, hBl, hrow⟩ := hbits
  have HC := Lib.hid (rrun_ok w t hs)
  obtain ⟨LS, eLS⟩ : ∃ x, x = r.least := ⟨_, rfl⟩
  obtain ⟨N, eN⟩ : ∃ x, x = r.m.bl := ⟨_, rfl⟩
  have hN := h.bl
  have hLS := h.least
  rw [← eN] at h1 hN hrow
  rw [← eLS] at hLS
  have c3 : w.cell? ⟨q, 3, none⟩ = some (.int .i64 (N : Nat)) := by rw [h.blk.cell, eN]; rfl
  have c12 : w.cell? ⟨q, 12, none⟩ = some (.slice (some ⟨B, 0, none⟩) ((N + 63) / 64) ((N + 63) / 64)) := by rw [h.blk.cell, eN]; rfl
  have c15 : w.cell? ⟨q, 15, none⟩ = some (.int .i64 ((LS : Int) - 2)) := by rw [h.blk.cell, eLS]; rfl
  have hfits : ∀ y, runF N LS t = y → fitsF 7 k t r = y.map fun x => { r with m := { r.m with bits := addRun r.m.bits x.1 x.2 }, least := x.2 + 2 } := by
    rintro y rfl
    rw [eN, eLS]; rfl
  have HFITS := Lib.hid hfits
  have HROW := Lib.hid hrow
  have H := Lib.hid h
  have ELS := Lib.hid eLS
  have EN := Lib.hid eN
  clear eQ h hfits hrow eLS eN
  go_enter Tryd.func71, Tryd.ntmps71
  go_wp2_with fail
  refine HC.out.mono ?_
  rintro e w1 ⟨⟨m, rfl⟩, a, b, ok, rfl, hno, hyes⟩
  cases ok
  · have HF : Hid (∀ m2, Q (.returned (.bool false)) (w.drewN m2)) := Lib.hid (fun m2 => by
      rw [EQ.out]
      refine ⟨false, rfl, (OnlyP.refl _ _).drewN m2, ?_⟩
      simp only [Bool.false_eq_true, if_false]
      exact ⟨HFITS.out none (by unfold runF; rw [hno rfl]), H.out.b16⟩)
    clear hno hyes HC
    go_wp2_with fail
    first | exact HF.out _ | (go_ret; exact HF.out _) | (go_quiet (fail); go_wp2_with fail; first | exact HF.out _ | (go_ret; exact HF.out _))
  · obtain ⟨x, y, rfl, rfl, hrun, hx, hy⟩ := hyes rfl
    have HRUN := Lib.hid hrun
    clear hno hyes HC hrun
    by_cases c1 : x < LS
    · have HF : Hid (∀ m2, Q (.returned (.bool false)) (w.drewN m2)) := Lib.hid (fun m2 => by
        rw [EQ.out]
        refine ⟨false, rfl, (OnlyP.refl _ _).drewN m2, ?_⟩
        simp only [Bool.false_eq_true, if_false]
        exact ⟨HFITS.out none (by unfold runF; rw [HRUN.out]; simp only; rw [if_neg (by omega)]), H.out.b16⟩)
      have d1 : decide (x < LS) = true := decide_eq_true c1
      have d2 : decide ((x : Int) < (LS : Int) - 2 + 2) = true := decide_eq_true (by omega)
      clear c1 HFITS HRUN H HROW
      go_wp2_with fail
      first | exact HF.out _ | (go_ret; exact HF.out _) | (go_quiet (fail); go_wp2_with fail; first | exact HF.out _ | (go_ret; exact HF.out _))
    have d1 : decide (x < LS) = false := decide_eq_false c1
    have d2 : decide ((x : Int) < (LS : Int) - 2 + 2) = false := decide_eq_false (by omega)
    by_cases c2 : N ≤ y
    · have HF : Hid (∀ m2, Q (.returned (.bool false)) (w.drewN m2)) := Lib.hid (fun m2 => by
        rw [EQ.out]
        refine ⟨false, rfl, (OnlyP.refl _ _).drewN m2, ?_⟩
        simp only [Bool.false_eq_true, if_false]
        exact ⟨HFITS.out none (by unfold runF; rw [HRUN.out]; simp only; rw [if_neg (by omega)]), H.out.b16⟩)
      have d3 : decide (N ≤ y) = true := decide_eq_true c2
      clear c1 c2 HFITS HRUN H HROW
      go_wp2_with fail
      first | exact HF.out _ | (go_ret; exact HF.out _) | (go_quiet (fail); go_wp2_with fail; first | exact HF.out _ | (go_ret; exact HF.out _))
    have d3 : decide (N ≤ y) = false := decide_eq_false c2
    have hxy : x ≤ y := by
      have h9 := HRUN.out
      unfold runOf at h9
      cases hd : dash t 0 with
      | none =>
        rw [hd] at h9
        cases hn : numOf t with
        | none => rw [hn] at h9; exact absurd h9 (by simp)
        | some v => rw [hn] at h9; simp only [Option.some.injEq, Prod.mk.injEq] at h9; omega
      | some p =>
        rw [hd] at h9
        simp only at h9
        split at h9
        · split at h9
          · simp only [Option.some.injEq, Prod.mk.injEq] at h9; omega
          · exact absurd h9 (by simp)
        · exact absurd h9 (by simp)
    have HOKF := Lib.hid (HFITS.out (some (x, y)) (by unfold runF; rw [HRUN.out]; simp only; rw [if_pos (by omega)]))
    have hyN : y < N := by omega
    clear c1 c2 HFITS HRUN
    go_upto_region 4 with (fail)
    obtain ⟨w1, e1⟩ : ∃ w1, w1 = w.drewN m := ⟨_, rfl⟩
    rw [← e1]
    have HB1 := Lib.hid (show Blk w1 q 57 (rArr19 vL ix r (.slice (some ⟨B, 0, none⟩) ((r.m.bl + 63) / 64) ((r.m.bl + 63) / 64)) vs) by rw [e1]; exact H.out.blk)
    have HO1 := Lib.hid (show OnlyP (fun b => b = q) w w1 by rw [e1]; exact (OnlyP.refl _ _).drewN m)
    have hr1 : RowA .u64 22 w1 B ((N + 63) / 64) (fun k => (wd r.m.bits N k : Nat)) := by rw [e1]; exact HROW.out
    have HR1 := Lib.hid hr1
    have d3c : w1.cell? ⟨q, 3, none⟩ = some (.int .i64 (N : Nat)) := by rw [HB1.out.cell, EN.out]; rfl
    have d12c : w1.cell? ⟨q, 12, none⟩ = some (.slice (some ⟨B, 0, none⟩) ((N + 63) / 64) ((N + 63) / 64)) := by rw [HB1.out.cell, EN.out]; rfl
    clear e1 c3 c12 c15 hr1 HROW
    obtain ⟨w2, e2⟩ : ∃ w2, w2 = w1.drew := ⟨_, rfl⟩
    have HB2 := Lib.hid (show Blk w2 q 57 (rArr19 vL ix r (.slice (some ⟨B, 0, none⟩) ((r.m.bl + 63) / 64) ((r.m.bl + 63) / 64)) vs) by rw [e2]; exact HB1.out)
    have HO2 := Lib.hid (show OnlyP (fun b => b = q) w w2 by rw [e2]; exact HO1.out.drew)
    have hr2 : RowA .u64 22 w2 B ((N + 63) / 64) (fun k => (wd r.m.bits N k : Nat)) := by rw [e2]; exact HR1.out
    have HFR := Lib.hid (from_ok N B r.m.bits w2 h1 (by omega) hr2)
    have HK2 := Lib.hid (show w2.cell? ⟨q, 3, none⟩ = some (.int .i64 (N : Nat)) ∧ w2.cell? ⟨q, 12, none⟩ = some (.slice (some ⟨B, 0, none⟩) ((N + 63) / 64) ((N + 63) / 64)) from ⟨by rw [HB2.out.cell, EN.out]; rfl, by rw [HB2.out.cell, EN.out]; rfl⟩)
    rw [e2] at HFR HK2
    have E2 := Lib.hid e2
    clear e2 hr2 d1 d2 d3 HB1 HO1 HR1
    go_region_held3 (fun w' => w'.cell? ⟨q, 3, none⟩ = some (.int .i64 (N : Nat)) ∧ w'.cell? ⟨q, 12, none⟩ = some (.slice (some ⟨B, 0, none⟩) ((N + 63) / 64) ((N + 63) / 64)))
      (first | exact HK3.out | exact HK2.out)
      (first
        | (go_at_call 99; (with_reducible refine HFR.out.mono ?_); intro e w3 hq; obtain ⟨M, rfl, hbm, hb3⟩ := hq; rw [← E2.out] at hbm hb3; have HBM := Lib.hid hbm; have HBB := Lib.hid hb3; have HK3 := Lib.hid (show w3.cell? ⟨q, 3, none⟩ = some (.int .i64 (N : Nat)) ∧ w3.cell? ⟨q, 12, none⟩ = some (.slice (some ⟨B, 0, none⟩) ((N + 63) / 64) ((N + 63) / 64)) from ⟨by rw [(HB2.out.below HBB.out HB2.out.lt).cell, EN.out]; rfl, by rw [(HB2.out.below HBB.out HB2.out.lt).cell, EN.out]; rfl⟩); clear hbm hb3))
    all_goals
      have hbm := HBM.out
      have hb3 := HBB.out
      clear HK2 HK3 HBM HBB d3c d12c
      obtain ⟨g, hbg, hM, hg⟩ := hbm.bmG
      have HB3 := Lib.hid (HB2.out.below hb3 HB2.out.lt)
      have HO3 := Lib.hid (HO2.out.then (OnlyP.ofBelow hb3))
      have HQM := Lib.hid (show q ≠ M ∧ q ≠ g from by have := HB2.out.lt; exact ⟨by omega, by omega⟩)
      have HGW := Lib.hid (show w.heap.size ≤ g from Nat.le_trans HO2.out.size hg)
      have HSR := Lib.hid (setRange_ok w3 M g N x (y - x + 1) r.m.bits hbg (by omega) (by omega))
      have hcnt : (y : Int) - (x : Int) + 1 = ((y - x + 1 : Nat) : Int) := by omega
      clear HFR hbm hb3 hbg hM hg HB2 HO2 E2
      go_wp2_with fail
      (try rw [hcnt])
      refine HSR.out.mono ?_
      rintro e w4 ⟨cN, rfl, hbm4, ho4⟩
      have HB4 := Lib.hid (show Blk w4 q 57 (rArr19 vL ix r (.slice (some ⟨B, 0, none⟩) ((r.m.bl + 63) / 64) ((r.m.bl + 63) / 64)) vs) from (ho4.block q HB3.out.lt HQM.out.2).trans HB3.out)
      have HO4 := Lib.hid (HO3.out.trans ho4 (fun b hb => .inr (by rw [hb]; exact HGW.out)))
      have HWD := Lib.hid (words_ok w4 M g N _ h1 (by omega) hbm4)
      clear HSR hbm4 ho4 hcnt HB3 HO3
      go_wp2_with fail
      refine HWD.out.mono ?_
      rintro e w5 ⟨v5, rfl, ⟨B5, rfl, hB5, hrow5⟩, hb5⟩
      have HB5 := Lib.hid (HB4.out.below hb5 HB4.out.lt)
      have HO5 := Lib.hid (HO4.out.then (OnlyP.ofBelow hb5))
      have hqB5 : B5 ≠ q := by have := HB4.out.lt; omega
      have HL5 := Lib.hid (show w.heap.size ≤ B5 from Nat.le_trans HO4.out.size hB5)
      have hadd : runTo r.m.bits x (x + (y - x + 1)) = addRun r.m.bits x y := by rw [show x + (y - x + 1) = y + 1 by omega]; exact runTo_add _ _ _
      rw [hadd] at hrow5
      have HR5 := Lib.hid hrow5
      have z12 : w5.cell? ⟨q, 12, none⟩ = some (.slice (some ⟨B, 0, none⟩) ((N + 63) / 64) ((N + 63) / 64)) := by rw [HB5.out.cell, EN.out]; rfl
      have z15 : w5.cell? ⟨q, 15, none⟩ = some (.int .i64 ((LS : Int) - 2)) := by rw [HB5.out.cell, ELS.out]; rfl
      have f12 : w5.frozen? ⟨q, 12, none⟩ = false := HB5.out.free 12
      have f15 : w5.frozen? ⟨q, 15, none⟩ = false := HB5.out.free 15
      have HF := Lib.hid (show Q (.returned (.bool true)) ((w5.setCell ⟨q, 12, none⟩ (.slice (some ⟨B5, 0, none⟩) ((N + 63) / 64) ((N + 63) / 64))).setCell ⟨q, 15, none⟩ (.int .i64 (y : Nat))) by
        rw [EQ.out]
        refine ⟨true, rfl, ((HO5.out.set (p := ⟨q, 12, none⟩) (.inl rfl) _).set (p := ⟨q, 15, none⟩) (.inl rfl) _).mono (fun b hb => .inl hb), ?_⟩
        simp only [if_true]
        refine ⟨_, .slice (some ⟨B5, 0, none⟩) ((N + 63) / 64) ((N + 63) / 64), vs, HOKF.out, ?_⟩
        have hbk : Blk ((w5.setCell ⟨q, 12, none⟩ (.slice (some ⟨B5, 0, none⟩) ((N + 63) / 64) ((N + 63) / 64))).setCell ⟨q, 15, none⟩ (.int .i64 (y : Nat))) q 57 (rArr19 vL ix { r with m := { r.m with bits := addRun r.m.bits x y }, least := y + 2 } (.slice (some ⟨B5, 0, none⟩) ((N + 63) / 64) ((N + 63) / 64)) vs) := by
          have h9 := (HB5.out.set 12 (.slice (some ⟨B5, 0, none⟩) ((N + 63) / 64) ((N + 63) / 64))).set 15 (.int .i64 (y : Nat))
          have e9 : (y : Int) = ((y + 2 : Nat) : Int) - 2 := by omega
          unfold rArr19 at h9 ⊢
          rw [← e9]
          exact h9
        refine ⟨hbk, H.out.hq, ?_, ?_, H.out.fl, H.out.flag, H.out.bl, H.out.sl, ?_⟩
        · refine own_keep2 H.out.slots (fun g hg => ?_)
          obtain ⟨cur, hc⟩ := own_blk H.out.slots hg
          have ho9 := (HO5.out.set (p := ⟨q, 12, none⟩) (.inl rfl) (.slice (some ⟨B5, 0, none⟩) ((N + 63) / 64) ((N + 63) / 64))).set (p := ⟨q, 15, none⟩) (.inl rfl) (.int .i64 (y : Nat))
          exact ho9.block g hc.lt (reader_ne H.out.blk hc (by decide))
        · simp only [if_true]
          rw [← EN.out]
          exact ⟨B5, rfl, Nat.le_trans hB0 HL5.out, (HR5.out.far (p := ⟨q, 12, none⟩) hqB5 _).far (p := ⟨q, 15, none⟩) hqB5 _⟩
        · show y + 2 ≤ 5000; omega)
      clear HWD hB5 hrow5 hb5 hadd HB4 HO4
      go_wp2_with fail
      first | exact HF.out | (go_ret; exact HF.out)
end Go.Proofs.YtbfebfeliddpnaaDoor
