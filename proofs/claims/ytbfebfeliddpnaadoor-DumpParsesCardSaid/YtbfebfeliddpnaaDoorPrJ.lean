/- The reader's bits. -/
import Derived.Test.YtbfebfeliddpnaaDoorPrI
import Derived.Test.YtbfebfeliddpnaaDoorWd
import Derived.Outline
import Derived.Deep.CutRange
namespace Go.Proofs.YtbfebfeliddpnaaDoor
open Go.RowKit
open Go.ChangeMaps
set_option linter.unusedVariables false
set_option linter.unusedSimpArgs false
theorem info_u64 : (Tryd.prog.info? 22).map (fun i => (i.zero, i.size, i.bytes)) = some (some (.int .u64 0), 1, 8) := by kernel_rfl
/-- Words in memory of their own. -/
def WordsIn (lo : Nat) (w : World) (v : Value) (n : Nat) (f : Nat → Bool) : Prop := ∃ B, v = .slice (some ⟨B, 0, none⟩) ((n + 63) / 64) ((n + 63) / 64) ∧ lo ≤ B ∧ RowA .u64 22 w B ((n + 63) / 64) (fun k => (wd f n k : Nat))
def BitsQ (w : World) (r : Nat) (s : ByteArray) (n : Nat) (x : Except Nat ((Nat → Bool) × List Tk)) (e : Ending) (w' : World) : Prop :=
  OnlyP (fun b => b = r) w w' ∧ match x with
    | .error p => e = faultE p
    | .ok (f, l) => ∃ v, e = .returned v ∧ WordsIn w.heap.size w' v n f ∧ ∃ i, i ≤ s.size ∧ RdB w' r s i ∧ toks s i = l
theorem RowA.only {O : Nat → Prop} {k : IntKind} {t : TypeId} {w w1 : World} {B n : Nat} {f : Nat → Int} (h : RowA k t w B n f) (ho : OnlyP O w w1) (hO : ¬ O B) : RowA k t w1 B n f := h.keep (ho.block B h.lt hO)
theorem num62 {t : ByteArray} {v : Nat} {ok : Bool} (h : numOf t = if ok = true then some v else none) (hk : ok = true) : v ≤ 4611686018427387904 := by
  rw [hk, if_pos rfl] at h
  unfold numOf at h
  split at h
  · rename_i h6; injection h with h; omega
  · exact absurd h (by simp)
theorem runTo_add (f : Nat → Bool) (a b : Nat) : runTo f a (b + 1) = addRun f a b := by
  funext i
  unfold runTo addRun
  by_cases h : i ≤ b
  · rw [decide_eq_true h, decide_eq_true (by omega : i < b + 1)]
  · rw [decide_eq_false h, decide_eq_false (by omega : ¬ i < b + 1)]
set_option maxHeartbeats 16000000 in
set_option maxRecDepth 100000 in
theorem bits_ok (n : Nat) (hn1 : 1 ≤ n) (hn2 : n ≤ 4096) (w : World) (r : Nat) (s : ByteArray) (i0 : Nat) (h : RdB w r s i0) (hi : i0 ≤ s.size) (hs : s.size ≤ 65536) :
    Calls Tryd.prog 48 #[.pointer (some ⟨r, 0, none⟩), .int .i64 (n : Nat)] w (BitsQ w r s n (bitsF s n 0 (fun _ => false) (toks s i0))) := by
  obtain ⟨X, eX⟩ : ∃ X, X = bitsF s n 0 (fun _ => false) (toks s i0) := ⟨_, rfl⟩
  rw [← eX]
  obtain ⟨Q, eQ⟩ : ∃ Q, Q = BitsQ w r s n X := ⟨_, rfl⟩
  rw [← eQ]
  obtain ⟨W, eW⟩ : ∃ W, W = (n + 63) / 64 := ⟨_, rfl⟩
  obtain ⟨B, eB⟩ : ∃ B, B = w.heap.size := ⟨_, rfl⟩
  have hW1 : W ≤ 65 := by omega
  have hW2 : ((n : Int) + 63) / 64 = (W : Int) := by omega
  have hmk := fun w => run_make_row' (P := Tryd.prog) 28 22 (.int .u64 0) 8 Tryd.underlying28 info_u64 rfl .i64 .i64 W (by omega) (by omega) w
  have hrl : r < w.heap.size := Blk.lt h
  have hrB : B ≠ r := by omega
  have hrow0 : RowA .u64 22 (w.alloc (.cells (madeCells #[.int .u64 0] W) 22)) B W (fun k => (wd (fun _ => false) n k : Nat)) := by
    rw [eB]; exact (RowA.made .u64 22 w W).congr (fun k _ => by rw [wd_nil]; rfl)
  have HR0 := Lib.hid (show RdB (w.alloc (.cells (madeCells #[.int .u64 0] W) 22)) r s i0 from Blk.alloc h _)
  have HO0 := Lib.hid (show OnlyP (fun b => b = r) w (w.alloc (.cells (madeCells #[.int .u64 0] W) 22)) from (OnlyP.refl _ _).alloc _)
  have HROW0 := Lib.hid hrow0
  have EQ := Lib.hid eQ
  have EX := Lib.hid eX
  have EW := Lib.hid eW
  have EB := Lib.hid eB
  clear eQ eX h hrow0 eW eB
  go_enter Tryd.func48, Tryd.ntmps48
  go_wp2_with fail
  rw [show w.heap.size = B from EB.out.symm, hW2]
  clear hmk hW2
  go_loopw [6, 7, 8, 9, 10, 11, 12, 13, 14, 15, 16] (fun lv _ _ _ _ _ _ _ _ _ _ wr => ∃ (ls i : Nat) (f : Nat → Bool), lv = .int .u64 (ls : Nat) ∧ ls ≤ n + 1 ∧ RowA .u64 22 wr B W (fun k => (wd f n k : Nat)) ∧ i ≤ s.size ∧ RdB wr r s i ∧ OnlyP (fun b => b = r) w wr ∧ bitsF s n ls f (toks s i) = X) (fun lv _ _ _ _ _ _ _ _ _ _ _ => n + 2 - (intOf lv).toNat)
  case atStart => exact ⟨0, i0, _, rfl, by omega, HROW0.out, hi, HR0.out, HO0.out, EX.out.symm⟩
  case round =>
    obtain ⟨ls, i, f, rfl, hls, hrow, hi1, hr, ho, hX⟩ := hrel
    have HROW := Lib.hid hrow
    have HO := Lib.hid ho
    have HX := Lib.hid hX
    have HG := Lib.hid (mark_ok wr r s i hr hi1 hs)
    clear hrow ho hX hr HROW0 HR0 HO0
    go_wp2_with fail
    refine HG.out.mono ?_
    rintro e w1 ⟨ho1, ⟨x, a, en, rfl, h1, h2, h3, hr1, ⟨hx, hv⟩ | ⟨hx, b, hxe, hv⟩⟩ | ⟨t, hg, rfl, hv⟩⟩
    · have HF := Lib.hid (show Q (.returned (.slice (some ⟨B, 0, none⟩) W W)) w1 by
        rw [EQ.out]
        refine ⟨HO.out.then ho1, ?_⟩
        rw [← HX.out, hv]
        refine ⟨_, rfl, ⟨B, by rw [EW.out], by rw [EB.out]; exact Nat.le_refl _, ?_⟩, en, h1, hr1, rfl⟩
        rw [← EW.out]
        exact HROW.out.only ho1 hrB)
      have hxx : (x.toList == [59]) = true := by rw [hx, bSemi_list]; rfl
      clear HG ho1 hr1 hv hx
      go_wp2_with fail
      first | exact HF.out | (go_ret; exact HF.out)
    · have hho := HO.out.then ho1
      have hX1 : ∀ y, y = runF n ls x → X = (match y with | some (p, q) => bitsF s n (q + 2) (addRun f p q) (toks s en) | none => .error a) := by
        rintro y rfl
        rw [← HX.out, hv, bitsF, ← hxe]
        cases runF n ls x <;> rfl
      have HX1 := Lib.hid hX1
      have HR1 := Lib.hid hr1
      have HO1 := Lib.hid hho
      have HROW1 := Lib.hid (HROW.out.only ho1 hrB)
      have hxx : (x.toList == [59]) = false := by
        have h9 := str_eq x bSemi
        rw [decide_eq_false hx] at h9
        rw [bSemi_list] at h9
        exact h9
      have hct := cut_ok x w1 (by omega)
      unfold bDash at hct
      have HCT := Lib.hid hct
      clear HG ho1 hho hr1 hv hx hxe hX1 HX HROW hct
      go_wp2_with fail
      refine HCT.out.mono ?_
      rintro e w2 ⟨⟨m, rfl⟩, rfl⟩
      have HR2 := Lib.hid (show RdB (w1.drewN m) r s en from Blk.drewN HR1.out m)
      have HO2 := Lib.hid (HO1.out.drewN m)
      have HROW2 := Lib.hid (HROW1.out.drewN m)
      obtain ⟨w2, ew2⟩ : ∃ w2, w2 = w1.drewN m := ⟨_, rfl⟩
      rw [← ew2] at HR2 HO2 HROW2 ⊢
      clear ew2 HCT HR1 HO1 HROW1
      have HDL := Lib.hid (dash_le x x.size 0)
      cases hdash : dash x 0 with
      | none =>
        have hrun : runF n ls x = (match numOf x with | some v => if ls ≤ v ∧ v < n then some (v, v) else none | none => none) := by
          unfold runF runOf
          rw [hdash]
          cases numOf x <;> rfl
        have HRUN := Lib.hid hrun
        have HDC := Lib.hid (decimal_ok w2 x (by omega))
        clear hrun hdash HDL
        simp only
        go_wp2_with fail
        refine HDC.out.mono ?_
        rintro e w3 ⟨ho3, v, ok, rfl, hn, hv64⟩
        have HR3 := Lib.hid (HR2.out.only ho3)
        have HO3 := Lib.hid (HO2.out.none ho3)
        have HROW3 := Lib.hid (HROW2.out.only ho3 (fun h => h))
        have hbad : runF n ls x = none → Q (faultE a) w3 := by
          intro hb
          rw [EQ.out]
          refine ⟨HO3.out, ?_⟩
          rw [HX1.out _ hb.symm]
        have HBAD := Lib.hid hbad
        clear ho3 hbad HR2 HO2 HROW2
        have hsl := HRUN.out
        rw [hn] at hsl
        have HSL := Lib.hid hsl
        clear HDC HRUN hsl
        cases ok
        · have HF := Lib.hid (HBAD.out HSL.out)
          clear HSL hn
          go_wp2_with fail
          first | exact HF.out | exact ⟨rfl, HF.out⟩
        · have hv62 := num62 hn rfl
          clear hn
          by_cases c1 : v < ls
          · have HF := Lib.hid (HBAD.out (by have h9 := HSL.out; simp only [if_true] at h9; rw [if_neg (by omega)] at h9; exact h9))
            have d1 : decide (v < ls) = true := decide_eq_true c1
            clear HSL c1
            go_wp2_with fail
            first | exact HF.out | exact ⟨rfl, HF.out⟩
          have d1 : decide (v < ls) = false := decide_eq_false c1
          by_cases c2 : n ≤ v
          · have HF := Lib.hid (HBAD.out (by have h9 := HSL.out; simp only [if_true] at h9; rw [if_neg (by omega)] at h9; exact h9))
            have d2 : decide (n ≤ v) = true := decide_eq_true c2
            clear HSL c2 c1
            go_wp2_with fail
            first | exact HF.out | exact ⟨rfl, HF.out⟩
          · have d2 : decide (n ≤ v) = false := decide_eq_false c2
            have HXF := Lib.hid (HX1.out (some (v, v)) (by have h9 := HSL.out; simp only [if_true] at h9; rw [if_pos (by omega)] at h9; exact h9.symm))
            have hp1 : ls ≤ v := by omega
            have hp2 : v < n := by omega
            have hp3 : v ≤ v := Nat.le_refl _
            clear HSL HBAD HX1 c1 c2
            go_wp2_with fail
            go_loopw [16] (fun iv wr => ∃ j : Nat, iv = .int .u64 (j : Nat) ∧ v ≤ j ∧ j ≤ v + 1 ∧ RowA .u64 22 wr B W (fun k => (wd (runTo f v j) n k : Nat)) ∧ RdB wr r s en ∧ OnlyP (fun b => b = r) w wr) (fun iv _ => v + 1 - (intOf iv).toNat)
            case atStart => exact ⟨v, rfl, Nat.le_refl _, by omega, HROW3.out.congr (fun k _ => by rw [runTo_none]), HR3.out, HO3.out⟩
            case round =>
              obtain ⟨j, rfl, hj1, hj2, hrow, hr, ho⟩ := hrel
              have HROW4 := Lib.hid hrow
              have HR4 := Lib.hid hr
              have HO4 := Lib.hid ho
              clear hr ho HROW3 HR3 HO3
              by_cases hle : j ≤ v
              · have hq : j / 64 < W := by have := EW.out; omega
                have hc := hrow.cell (j / 64) hq
                have hfz := hrow.free (j / 64)
                have hx64 : wd (runTo f v j) n (j / 64) < 2 ^ 64 := wd_lt _ _ _
                have hst : RowA .u64 22 (wr.setCell ⟨B, j / 64, none⟩ (.int .u64 (bits .or .u64 ((wd (runTo f v j) n (j / 64) : Nat) : Int) (IntKind.u64.wrap (2 ^ (j % 64)))))) B W (fun k => (wd (runTo f v (j + 1)) n k : Nat)) := by
                  rw [or_bit _ _ hx64 (by omega)]
                  refine (hrow.put (j / 64) _).congr (fun k _ => ?_)
                  rw [runTo_step f v j n k hj1 (by omega)]
                  by_cases e : k = j / 64
                  · rw [if_pos e, if_pos e, e]
                  · rw [if_neg e, if_neg e]
                have HST := Lib.hid hst
                have HRS := Lib.hid (show RdB (wr.setCell ⟨B, j / 64, none⟩ (.int .u64 (bits .or .u64 ((wd (runTo f v j) n (j / 64) : Nat) : Int) (IntKind.u64.wrap (2 ^ (j % 64)))))) r s en from Blk.far HR4.out (fun e => hrB e.symm) _)
                have HOS := Lib.hid (HO4.out.set (p := ⟨B, j / 64, none⟩) (.inr (by rw [← EB.out]; exact Nat.le_refl _)) (.int .u64 (bits .or .u64 ((wd (runTo f v j) n (j / 64) : Nat) : Int) (IntKind.u64.wrap (2 ^ (j % 64))))))
                have d3 : decide (j ≤ v) = true := decide_eq_true hle
                clear hrow hst
                go_wp2_with fail
                go_roundw
                case rel => exact ⟨j + 1, by go_num, by omega, by omega, HST.out, HRS.out, HOS.out⟩
                case measure => simp [intOf]; omega
              · obtain rfl : j = v + 1 := by omega
                have HEND := Lib.hid (hrow.congr (g := fun k => (wd (addRun f v v) n k : Nat)) (fun k _ => by rw [runTo_add]))
                clear hrow hle HROW4
                go_wp2_with fail
                go_roundw
                case rel => first | exact ⟨v + 2, en, addRun f v v, by go_num, by omega, HEND.out, h1, HR4.out, HO4.out, HXF.out.symm⟩ | ((repeat apply Exists.intro); refine ⟨?_, rfl⟩; exact ⟨v + 2, en, addRun f v v, by go_num, by omega, HEND.out, h1, HR4.out, HO4.out, HXF.out.symm⟩)
                case measure => simp [intOf]; omega
      | some k =>
        obtain ⟨_, hkx, _⟩ := HDL.out k (by omega) hdash
        obtain ⟨y, ey⟩ : ∃ y, y = x.extract 0 k := ⟨_, rfl⟩
        obtain ⟨z, ez⟩ : ∃ z, z = x.extract (k + 1) x.size := ⟨_, rfl⟩
        have hys : y.size ≤ 65536 := by rw [ey, ByteArray.size_extract]; omega
        have hzs : z.size ≤ 65536 := by rw [ez, ByteArray.size_extract]; omega
        have hrun : runF n ls x = (match numOf y, numOf z with | some p, some q => if p < q ∧ ls ≤ p ∧ q < n then some (p, q) else none | _, _ => none) := by
          unfold runF runOf
          rw [hdash]
          simp only
          rw [← ey, ← ez]
          cases numOf y with
          | none => rfl
          | some p =>
            cases numOf z with
            | none => rfl
            | some q =>
              simp only
              by_cases hpq : p < q
              · rw [if_pos hpq]
                by_cases hb : ls ≤ p ∧ q < n
                · simp only [if_pos hb]; rw [if_pos ⟨hpq, hb⟩]
                · simp only [if_neg hb]; rw [if_neg (fun h => hb h.2)]
              · rw [if_neg hpq, if_neg (fun h => hpq h.1)]
        have HRUN := Lib.hid hrun
        have HDC := Lib.hid (decimal_ok w2 y hys)
        simp only
        rw [← ey, ← ez]
        clear hrun hdash HDL ey ez
        go_wp2_with fail
        refine HDC.out.mono ?_
        rintro e w5 ⟨ho5, v, ok1, rfl, hn5, hv64⟩
        have HR5 := Lib.hid (HR2.out.only ho5)
        have HO5 := Lib.hid (HO2.out.none ho5)
        have HROW5 := Lib.hid (HROW2.out.only ho5 (fun h => h))
        have HDC2 := Lib.hid (decimal_ok w5 z hzs)
        have HN5 := Lib.hid hn5
        clear ho5 HDC HR2 HO2 HROW2 hn5
        go_wp2_with fail
        refine HDC2.out.mono ?_
        rintro e w3 ⟨ho3, v2, ok2, rfl, hn3, hv642⟩
        have HR3 := Lib.hid (HR5.out.only ho3)
        have HO3 := Lib.hid (HO5.out.none ho3)
        have HROW3 := Lib.hid (HROW5.out.only ho3 (fun h => h))
        have hbad : runF n ls x = none → Q (faultE a) w3 := by
          intro hb
          rw [EQ.out]
          refine ⟨HO3.out, ?_⟩
          rw [HX1.out _ hb.symm]
        have HBAD := Lib.hid hbad
        have hsl := HRUN.out
        rw [HN5.out, hn3] at hsl
        have HSL := Lib.hid hsl
        have HN3 := Lib.hid hn3
        clear HDC2 HRUN hsl ho3 hbad hn3 HR5 HO5 HROW5
        cases ok1
        · have HF := Lib.hid (HBAD.out (by have h9 := HSL.out; simpa using h9))
          clear HSL HN3 HN5
          go_wp2_with fail
          first | exact HF.out | exact ⟨rfl, HF.out⟩
        cases ok2
        · have HF := Lib.hid (HBAD.out (by have h9 := HSL.out; simpa using h9))
          clear HSL HN3 HN5
          go_wp2_with fail
          first | exact HF.out | exact ⟨rfl, HF.out⟩
        have hv62 := num62 HN5.out rfl
        have hv622 := num62 HN3.out rfl
        have hsl : runF n ls x = if v < v2 ∧ ls ≤ v ∧ v2 < n then some (v, v2) else none := HSL.out
        have HSL2 := Lib.hid hsl
        clear HSL hsl HN3 HN5
        by_cases c0 : v < v2
        · have d0 : decide (v < v2) = true := decide_eq_true c0
          by_cases c1 : v < ls
          · have HF := Lib.hid (HBAD.out (by rw [HSL2.out, if_neg (by omega)]))
            have d1 : decide (v < ls) = true := decide_eq_true c1
            clear HSL2 c1 c0
            go_wp2_with fail
            first | exact HF.out | exact ⟨rfl, HF.out⟩
          have d1 : decide (v < ls) = false := decide_eq_false c1
          by_cases c2 : n ≤ v2
          · have HF := Lib.hid (HBAD.out (by rw [HSL2.out, if_neg (by omega)]))
            have d2 : decide (n ≤ v2) = true := decide_eq_true c2
            clear HSL2 c2 c1 c0
            go_wp2_with fail
            first | exact HF.out | exact ⟨rfl, HF.out⟩
          · have d2 : decide (n ≤ v2) = false := decide_eq_false c2
            have HXF := Lib.hid (HX1.out (some (v, v2)) (by rw [HSL2.out, if_pos (by omega)]))
            have hp1 : ls ≤ v := by omega
            have hp2 : v2 < n := by omega
            have hp3 : v ≤ v2 := by omega
            clear HSL2 HBAD HX1 c1 c2 c0
            go_wp2_with fail
            go_loopw [16] (fun iv wr => ∃ j : Nat, iv = .int .u64 (j : Nat) ∧ v ≤ j ∧ j ≤ v2 + 1 ∧ RowA .u64 22 wr B W (fun k => (wd (runTo f v j) n k : Nat)) ∧ RdB wr r s en ∧ OnlyP (fun b => b = r) w wr) (fun iv _ => v2 + 1 - (intOf iv).toNat)
            case atStart => exact ⟨v, rfl, Nat.le_refl _, by omega, HROW3.out.congr (fun k _ => by rw [runTo_none]), HR3.out, HO3.out⟩
            case round =>
              obtain ⟨j, rfl, hj1, hj2, hrow, hr, ho⟩ := hrel
              have HROW4 := Lib.hid hrow
              have HR4 := Lib.hid hr
              have HO4 := Lib.hid ho
              clear hr ho HROW3 HR3 HO3
              by_cases hle : j ≤ v2
              · have hq : j / 64 < W := by have := EW.out; omega
                have hc := hrow.cell (j / 64) hq
                have hfz := hrow.free (j / 64)
                have hx64 : wd (runTo f v j) n (j / 64) < 2 ^ 64 := wd_lt _ _ _
                have hst : RowA .u64 22 (wr.setCell ⟨B, j / 64, none⟩ (.int .u64 (bits .or .u64 ((wd (runTo f v j) n (j / 64) : Nat) : Int) (IntKind.u64.wrap (2 ^ (j % 64)))))) B W (fun k => (wd (runTo f v (j + 1)) n k : Nat)) := by
                  rw [or_bit _ _ hx64 (by omega)]
                  refine (hrow.put (j / 64) _).congr (fun k _ => ?_)
                  rw [runTo_step f v j n k hj1 (by omega)]
                  by_cases e : k = j / 64
                  · rw [if_pos e, if_pos e, e]
                  · rw [if_neg e, if_neg e]
                have HST := Lib.hid hst
                have HRS := Lib.hid (show RdB (wr.setCell ⟨B, j / 64, none⟩ (.int .u64 (bits .or .u64 ((wd (runTo f v j) n (j / 64) : Nat) : Int) (IntKind.u64.wrap (2 ^ (j % 64)))))) r s en from Blk.far HR4.out (fun e => hrB e.symm) _)
                have HOS := Lib.hid (HO4.out.set (p := ⟨B, j / 64, none⟩) (.inr (by rw [← EB.out]; exact Nat.le_refl _)) (.int .u64 (bits .or .u64 ((wd (runTo f v j) n (j / 64) : Nat) : Int) (IntKind.u64.wrap (2 ^ (j % 64))))))
                have d3 : decide (j ≤ v2) = true := decide_eq_true hle
                clear hrow hst
                go_wp2_with fail
                go_roundw
                case rel => exact ⟨j + 1, by go_num, by omega, by omega, HST.out, HRS.out, HOS.out⟩
                case measure => simp [intOf]; omega
              · obtain rfl : j = v2 + 1 := by omega
                have HEND := Lib.hid (hrow.congr (g := fun k => (wd (addRun f v v2) n k : Nat)) (fun k _ => by rw [runTo_add]))
                clear hrow hle HROW4
                go_wp2_with fail
                go_roundw
                case rel => first | exact ⟨v2 + 2, en, addRun f v v2, by go_num, by omega, HEND.out, h1, HR4.out, HO4.out, HXF.out.symm⟩ | ((repeat apply Exists.intro); refine ⟨?_, rfl⟩; exact ⟨v2 + 2, en, addRun f v v2, by go_num, by omega, HEND.out, h1, HR4.out, HO4.out, HXF.out.symm⟩)
                case measure => simp [intOf]; omega
        · have HF := Lib.hid (HBAD.out (by rw [HSL2.out, if_neg (by omega)]))
          have d0 : decide (v < v2) = false := decide_eq_false c0
          clear HSL2 c0
          go_wp2_with fail
          first | exact HF.out | exact ⟨rfl, HF.out⟩
    · have HF := Lib.hid (show Q (faultE t.pl) w1 by
        rw [EQ.out]
        refine ⟨HO.out.then ho1, ?_⟩
        rw [← HX.out, hv]
        cases t with
        | word a b => simp [Tk.goes] at hg
        | semi a => simp [Tk.goes] at hg
        | bad a => rfl
        | fin a => rfl)
      clear HG ho1 hv hg HROW
      obtain ⟨p, ep⟩ : ∃ p, p = t.pl := ⟨_, rfl⟩
      rw [← ep] at HF ⊢
      clear ep
      unfold faultE at HF ⊢
      go_wp2_with fail
      first | exact HF.out | exact ⟨rfl, HF.out⟩
end Go.Proofs.YtbfebfeliddpnaaDoor
