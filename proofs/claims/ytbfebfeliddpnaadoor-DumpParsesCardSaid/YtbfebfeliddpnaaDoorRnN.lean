/- The reference's Parse. -/
import Derived.Test.YtbfebfeliddpnaaDoorRnM
namespace Go.Proofs.YtbfebfeliddpnaaDoor
open Go.RowKit
open Go.ChangeMaps
set_option linter.unusedVariables false
set_option linter.unusedSimpArgs false
theorem rparse_results (tmps : Array Value) (w : World) (g : Nat) (x y : Value) {b0 b1 b2 b3 b4 b5 b6 b7 b8 b9 b10 b11 : Value} (hp : tmps.getD 2 undef = .pointer (some ⟨g, 0, none⟩)) (hx : tmps.getD 3 undef = x) (hy : tmps.getD 4 undef = y) (H : Blk w g 31 #[b0, b1, b2, b3, b4, b5, b6, b7, b8, b9, b10, b11]) :
    (results Tryd.f8 tmps).run Tryd.prog w = .ok (.tuple #[.agg #[b0, b1, b2, b3, b4, b5, b6, b7, b8, b9, b10, b11], x, y]) w := by
  have hp' : tmps[2]?.getD undef = .pointer (some ⟨g, 0, none⟩) := by simpa using hp
  have hx' : tmps[3]?.getD undef = x := by simpa using hx
  have hy' : tmps[4]?.getD undef = y := by simpa using hy
  have d0 := H.cell 0
  have d1 := H.cell 1
  have d2 := H.cell 2
  have d3 := H.cell 3
  have d4 := H.cell 4
  have d5 := H.cell 5
  have d6 := H.cell 6
  have d7 := H.cell 7
  have d8 := H.cell 8
  have d9 := H.cell 9
  have d10 := H.cell 10
  have d11 := H.cell 11
  simp only [List.getElem?_toArray, List.getElem?_cons_zero, List.getElem?_cons_succ] at d0 d1 d2 d3 d4 d5 d6 d7 d8 d9 d10 d11
  simp [results, Tryd.results8, hp', hx', hy', asAddr, go_sem, d0, d1, d2, d3, d4, d5, d6, d7, d8, d9, d10, d11]
theorem blk_drew {w : World} {g : Nat} {t : TypeId} {cs : Array Value} (h : Blk w g t cs) : Blk w.drew g t cs := h
/-- What both Parse answer, and that the lists are short. -/
def ParseQ2 (w : World) (s : ByteArray) (e : Ending) (w' : World) : Prop := ParseQ w s e w' ∧ (s.size ≤ 65536 → ∀ m, parseD s = .ok m → m.bl ≤ 4096 ∧ m.slots.length ≤ 65537)
theorem own_sl {w : World} {B : Nat} {e : TypeId} {k n : Nat} {v : Value} {xs : List Value} (h : w.ownsRow B e k v n xs) : ∃ A c, v = .slice A n c := by
  rcases h.2 with ⟨rfl, h0⟩ | ⟨g, cap, cur, rfl, _⟩
  · exact ⟨none, 0, by rw [h0]⟩
  · exact ⟨_, _, rfl⟩
theorem words_lower {B C : Nat} {w : World} {v : Value} {n : Nat} {f : Nat → Bool} (h : WordsIn B w v n f) (hC : C ≤ B) : WordsIn C w v n f := by
  obtain ⟨g, e, hg, hr⟩ := h
  exact ⟨g, e, Nat.le_trans hC hg, hr⟩
theorem parts_err (s : ByteArray) (p : Nat) (hp : p < 8) (r : RSt) (l : List Tk) (x : Nat) (h : wholePart s p r l = .error x) : partsF s (8 - p) p r l = .error x := by
  obtain ⟨n, hn⟩ : ∃ n, 8 - p = n + 1 := ⟨7 - p, by omega⟩
  rw [hn]; simp only [partsF, h]
theorem parts_ok (s : ByteArray) (p : Nat) (hp : p < 8) (r r1 : RSt) (l l1 : List Tk) (h : wholePart s p r l = .ok (r1, l1)) : partsF s (8 - p) p r l = partsF s (8 - (p + 1)) (p + 1) r1 l1 := by
  obtain ⟨n, hn⟩ : ∃ n, 8 - p = n + 1 := ⟨7 - p, by omega⟩
  rw [hn]; simp only [partsF, h]
  rw [show 8 - (p + 1) = n by omega]
set_option maxHeartbeats 8000000 in
set_option maxRecDepth 100000 in
theorem rparse_ok (w : World) (s : ByteArray) (hsz : s.size ≤ 9223372036854775807) : Calls Tryd.prog 8 #[.string s] w (ParseQ2 w s) := by
  obtain ⟨Q, eQ⟩ : ∃ Q, Q = ParseQ2 w s := ⟨_, rfl⟩
  rw [← eQ]
  have EQ := Lib.hid eQ
  obtain ⟨R, eR⟩ : ∃ x, x = w.heap.size := ⟨_, rfl⟩
  obtain ⟨wa, ewa⟩ : ∃ x, x = w.alloc (.cells #[.int .u64 0, .int .i64 0, .int .i64 0, .int .i64 0, .int .u64 0, .int .u64 0, .int .u64 0, .int .u64 0, .int .u32 0, .int .i64 0, .slice none 0 0, .slice none 0 0] 31) := ⟨_, rfl⟩
  have hR : Blk wa R 31 #[.int .u64 0, .int .i64 0, .int .i64 0, .int .i64 0, .int .u64 0, .int .u64 0, .int .u64 0, .int .u64 0, .int .u32 0, .int .i64 0, .slice none 0 0, .slice none 0 0] := by rw [ewa, eR]; exact Blk.new _ _ _
  have hba : Below R w wa := by rw [ewa, eR]; exact (Below.refl _ _).alloc (Nat.le_refl _) _
  have ER := Lib.hid eR
  have EWA := Lib.hid ewa
  have HBA := Lib.hid hba
  have HR := Lib.hid hR
  clear eQ eR ewa hba hR
  by_cases hs : 65536 < s.size
  · have d0 : decide ((65536 : Int) < s.size) = true := decide_eq_true (by omega)
    have HF := Lib.hid (fun w2 (ho : OnlyP (fun b => b = R) wa w2) => show Q (.returned (.tuple #[.agg #[.int .u64 0, .int .i64 0, .int .i64 0, .int .i64 0, .int .u64 0, .int .u64 0, .int .u64 0, .int .u64 0, .int .u32 0, .int .i64 0, .slice none 0 0, .slice none 0 0], .int .i64 0, .int .i64 6])) w2 by
      rw [EQ.out]
      refine ⟨⟨?_, by rw [if_pos hs]; rfl⟩, fun h => by omega⟩
      rw [← ER.out]
      exact HBA.out.trans (ho.below (Nat.le_of_lt HR.out.lt) (fun x hx => by rw [hx]; exact Nat.le_refl _)))
    clear hs
    go_enter Tryd.func8, Tryd.ntmps8
    go_upto_region 1 with (fail)
    rw [← EWA.out, ← ER.out]
    have z0 : wa.cell? ⟨R, 0, none⟩ = some (.int .u64 0) := HR.out.cell 0
    have fz0 : wa.frozen? ⟨R, 0, none⟩ = false := HR.out.free 0
    have z1 : wa.cell? ⟨R, 1, none⟩ = some (.int .i64 0) := HR.out.cell 1
    have fz1 : wa.frozen? ⟨R, 1, none⟩ = false := HR.out.free 1
    have z2 : wa.cell? ⟨R, 2, none⟩ = some (.int .i64 0) := HR.out.cell 2
    have fz2 : wa.frozen? ⟨R, 2, none⟩ = false := HR.out.free 2
    have z3 : wa.cell? ⟨R, 3, none⟩ = some (.int .i64 0) := HR.out.cell 3
    have fz3 : wa.frozen? ⟨R, 3, none⟩ = false := HR.out.free 3
    have z4 : wa.cell? ⟨R, 4, none⟩ = some (.int .u64 0) := HR.out.cell 4
    have fz4 : wa.frozen? ⟨R, 4, none⟩ = false := HR.out.free 4
    have z5 : wa.cell? ⟨R, 5, none⟩ = some (.int .u64 0) := HR.out.cell 5
    have fz5 : wa.frozen? ⟨R, 5, none⟩ = false := HR.out.free 5
    have z6 : wa.cell? ⟨R, 6, none⟩ = some (.int .u64 0) := HR.out.cell 6
    have fz6 : wa.frozen? ⟨R, 6, none⟩ = false := HR.out.free 6
    have z7 : wa.cell? ⟨R, 7, none⟩ = some (.int .u64 0) := HR.out.cell 7
    have fz7 : wa.frozen? ⟨R, 7, none⟩ = false := HR.out.free 7
    have z8 : wa.cell? ⟨R, 8, none⟩ = some (.int .u32 0) := HR.out.cell 8
    have fz8 : wa.frozen? ⟨R, 8, none⟩ = false := HR.out.free 8
    have z9 : wa.cell? ⟨R, 9, none⟩ = some (.int .i64 0) := HR.out.cell 9
    have fz9 : wa.frozen? ⟨R, 9, none⟩ = false := HR.out.free 9
    have z10 : wa.cell? ⟨R, 10, none⟩ = some (.slice none 0 0) := HR.out.cell 10
    have fz10 : wa.frozen? ⟨R, 10, none⟩ = false := HR.out.free 10
    have z11 : wa.cell? ⟨R, 11, none⟩ = some (.slice none 0 0) := HR.out.cell 11
    have fz11 : wa.frozen? ⟨R, 11, none⟩ = false := HR.out.free 11
    go_wp2_with fail
    exact bodyPost_ret (rparse_results _ _ R _ _ rfl rfl rfl ((HR.out).sets _ _ _ _ _ _ _ _ _ _ _ _)) rfl (HF.out _ (OnlyP.sets (O := fun b => b = R) (R := R) (.inl rfl) [_, _, _, _, _, _, _, _, _, _, _, _] 0 _ (OnlyP.refl _ _)))
  · have d0 : decide ((65536 : Int) < s.size) = false := decide_eq_false (by omega)
    have hs' : s.size ≤ 65536 := by omega
    obtain ⟨LT, eLT⟩ : ∃ x, x = toks s 0 := ⟨_, rfl⟩
    have hends := toks_ends s _ 0 (Nat.le_refl _) (Nat.zero_le _)
    rw [← eLT] at hends
    have hlen0 : 0 < LT.length := by
      rcases hz : LT with _ | ⟨t, l⟩
      · rw [hz] at hends; exact absurd hends.1 id
      · simp
    have hlen : LT.length ≤ 65537 := by have := hends.2; omega
    have HC := Lib.hid (rcut_ok wa s hs')
    have HTOK := Lib.hid (show ∀ t ∈ LT, TkOk s t by rw [eLT]; exact toks_ok s _ 0 (Nat.le_refl _) (Nat.zero_le _))
    have ELT := Lib.hid eLT
    obtain ⟨NL, eNL⟩ : ∃ x, x = LT.length := ⟨_, rfl⟩
    have ENL := Lib.hid eNL
    rw [← eNL] at hlen0 hlen
    have HPR := Lib.hid (show parseD s = partsF s (8 - 0) 0 rs0 (LT.drop 0) by rw [← parse_same, eLT, List.drop_zero]; rfl)
    have HS := Lib.hid hs'
    clear hends eLT eNL hs'
    go_enter Tryd.func8, Tryd.ntmps8
    go_upto_region 1 with (fail)
    rw [← EWA.out, ← ER.out]
    go_wp2_with fail
    refine HC.out.mono ?_
    rintro e w1 ⟨vL, rfl, hb1, hown⟩
    rw [← ELT.out] at hown
    have hT := own_tkl hown (by rw [← ENL.out]; exact hlen0) (Nat.le_refl _)
    obtain ⟨g, cap, hv, hg9⟩ : ∃ g cap, vL = .slice (some ⟨g, 0, none⟩) NL cap ∧ g < w1.heap.size := by
      obtain ⟨g, cap, cs, e, hg, _⟩ := hT
      exact ⟨g, cap, by rw [e, ENL.out], hg⟩
    subst hv
    obtain ⟨q, eq⟩ : ∃ x, x = w1.heap.size := ⟨_, rfl⟩
    have hRq : R < q := by rw [eq]; exact Nat.lt_of_lt_of_le HR.out.lt hb1.size
    have hR1 : Blk w1 R 31 #[.int .u64 0, .int .i64 0, .int .i64 0, .int .i64 0, .int .u64 0, .int .u64 0, .int .u64 0, .int .u64 0, .int .u32 0, .int .i64 0, .slice none 0 0, .slice none 0 0] := HR.out.below hb1 HR.out.lt
    obtain ⟨w2, ew2⟩ : ∃ x, x = w1.alloc (.cells #[.slice (some ⟨g, 0, none⟩) NL cap, .int .i64 0, .int .u64 0, .int .i64 0, .int .i64 0, .int .i64 0, .int .u64 0, .int .u64 0, .int .u64 0, .int .u64 0, .int .u32 0, .int .i64 0, .slice none 0 0, .slice none 0 0, .int .i64 0, .int .i64 (-2)] 57) := ⟨_, rfl⟩
    have hlow : Below q w1 w2 := by rw [ew2, eq]; exact (Below.refl _ _).alloc (Nat.le_refl _) _
    have hT2 : TkL q w2 s LT (.slice (some ⟨g, 0, none⟩) NL cap) := (eq ▸ hT).below hlow
    have hr2 : RdS q w2 q (.slice (some ⟨g, 0, none⟩) NL cap) 0 rs0 (.slice none 0 0) (.slice none 0 0) false :=
      ⟨by rw [ew2, eq]; exact Blk.new _ _ _, Nat.le_refl _, ⟨rfl, .inl ⟨rfl, rfl⟩⟩, by simp, by decide, by decide, by decide, by decide, by decide⟩
    have hR2 : Blk w2 R 31 #[.int .u64 0, .int .i64 0, .int .i64 0, .int .i64 0, .int .u64 0, .int .u64 0, .int .u64 0, .int .u64 0, .int .u32 0, .int .i64 0, .slice none 0 0, .slice none 0 0] := hR1.below hlow hRq
    have hb2 : Below R w w2 := HBA.out.trans (Below.trans (B := R) ⟨hb1.os, hb1.tape, hb1.output, hb1.size, fun b hb => hb1.block b (Nat.lt_trans hb HR.out.lt)⟩ ⟨hlow.os, hlow.tape, hlow.output, hlow.size, fun b hb => hlow.block b (by omega)⟩)
    have hq2 : q < w2.heap.size := hr2.blk.lt
    have EW2 := Lib.hid ew2
    have EQ1 := Lib.hid eq
    have HT2 := Lib.hid hT2
    have HR2 := Lib.hid hR2
    have HB2 := Lib.hid hb2
    have HRD := Lib.hid hr2
    clear hown hT hb1 hR1 hlow hT2 hr2 hR2 hb2 eq ew2 HC
    go_upto_region 4 with (fail)
    rw [show w1.heap.size = q from EQ1.out.symm]
    rw [← EW2.out]
    go_wp2_with fail
    go_loopw [6, 7] (fun pv _ wr => ∃ (p ix : Nat) (r : RSt) (vb vs : Value), pv = .int .i64 (p : Nat) ∧ p ≤ 8 ∧ ix < NL ∧ RdS q wr q (.slice (some ⟨g, 0, none⟩) NL cap) ix r vb vs (decide (p = 8)) ∧ Below q w2 wr ∧ r.m.slots.length ≤ ix ∧ (2 < p → 1 ≤ r.m.bl) ∧ (p ≤ 7 → r.m.bits = fun _ => false) ∧ parseD s = partsF s (8 - p) p r (LT.drop ix)) (fun pv _ _ => 8 - (intOf pv).toNat)
    case atStart => exact ⟨0, 0, rs0, _, _, rfl, by omega, hlen0, HRD.out, Below.refl _ _, Nat.le_refl _, fun h => by omega, fun _ => rfl, HPR.out⟩
    case round =>
      obtain ⟨p, ix, r, vb, vs, rfl, hp, hix, hr, hb, hsl, hbl, hbits, hpar⟩ := hrel
      obtain ⟨g', cap', cs, e', hgq, hkb, hkc⟩ := HT2.out
      obtain ⟨rfl, rfl⟩ : g = g' ∧ cap = cap' := by
        rw [← ENL.out] at e'
        simp only [Value.slice.injEq, Option.some.injEq, Addr.mk.injEq] at e'
        exact ⟨e'.1.1, e'.2.2⟩
      have hkw := hkb.below hb hgq
      have HKW := Lib.hid hkw
      have HKC := Lib.hid hkc
      have hR3 : Blk wr R 31 #[.int .u64 0, .int .i64 0, .int .i64 0, .int .i64 0, .int .u64 0, .int .u64 0, .int .u64 0, .int .u64 0, .int .u32 0, .int .i64 0, .slice none 0 0, .slice none 0 0] := HR2.out.below hb hRq
      have hRw : Below R w wr := HB2.out.trans ⟨hb.os, hb.tape, hb.output, hb.size, fun b hbb => hb.block b (by omega)⟩
      have hqw : q ≤ wr.heap.size := Nat.le_of_lt hr.blk.lt
      have hgw : g < wr.heap.size := by omega
      by_cases hp8 : p < 8
      · have hr' : RdS q wr q (.slice (some ⟨g, 0, none⟩) NL cap) ix r vb vs false := by have h9 := hr; rw [decide_eq_false (by omega)] at h9; exact h9
        have hTw : TkL q wr s LT (.slice (some ⟨g, 0, none⟩) NL cap) := HT2.out.below hb
        have HPA := Lib.hid (part_ok q wr s LT q _ ix p r vb vs hp8 HS.out ELT.out (by rw [← ENL.out]; exact hix) hqw hTw hr' hsl hbl (fun h7 => hbits (by omega)))
        have HPAR := Lib.hid hpar
        have HRW := Lib.hid hRw
        have HR3 := Lib.hid hR3
        have HB := Lib.hid hb
        have HBI := Lib.hid hbits
        have d5 : decide ((p : Int) < 8) = true := decide_eq_true (by omega)
        clear hr hb hsl hbl hbits hpar hr' hTw hkb hkc hkw hR3 hRw e'
        go_wp2_with fail
        refine HPA.out.mono ?_
        rintro e w6 ⟨ok, rfl, hb6, hm⟩
        have HB6 := Lib.hid (HB.out.trans hb6)
        have hR6 : Blk w6 R 31 #[.int .u64 0, .int .i64 0, .int .i64 0, .int .i64 0, .int .u64 0, .int .u64 0, .int .u64 0, .int .u64 0, .int .u32 0, .int .i64 0, .slice none 0 0, .slice none 0 0] := HR3.out.below hb6 hRq
        have hk6 : Blk w6 g 60 cs := HKW.out.below hb6 hgq
        have hRw6 : Below R w w6 := HRW.out.trans ⟨hb6.os, hb6.tape, hb6.output, hb6.size, fun b hbb => hb6.block b (by omega)⟩
        cases ok
        · simp only [Bool.false_eq_true, if_false] at hm
          obtain ⟨ix1, t, herr, ht, h16⟩ := hm
          have hix1 : ix1 < NL := by rw [ENL.out]; exact (List.getElem?_eq_some_iff.1 ht).1
          obtain ⟨cs6, hb16, h0, h1⟩ := h16
          obtain ⟨TP, eTP⟩ : ∃ x, x = t.pl := ⟨_, rfl⟩
          have c0 : w6.cell? ⟨q, 0, none⟩ = some (.slice (some ⟨g, 0, none⟩) NL cap) := by rw [hb16.cell]; exact h0
          have c1 : w6.cell? ⟨q, 1, none⟩ = some (.int .i64 (ix1 : Nat)) := by rw [hb16.cell]; exact h1
          have k1 : w6.cell? ⟨g, ix1 * 2 + 1, none⟩ = some (.int .i64 (TP : Nat)) := by rw [hk6.cell, eTP]; exact (HKC.out ix1 t ht).2
          have HF := Lib.hid (fun w7 (ho : OnlyP (fun b => b = R) w6 w7) => show Q (.returned (.tuple #[.agg #[.int .u64 0, .int .i64 0, .int .i64 0, .int .i64 0, .int .u64 0, .int .u64 0, .int .u64 0, .int .u64 0, .int .u32 0, .int .i64 0, .slice none 0 0, .slice none 0 0], .int .i64 (TP : Nat), .int .i64 191])) w7 by
            rw [EQ.out]
            have hpd : parseD s = .error TP := by rw [HPAR.out, parts_err s p hp8 r _ _ herr, eTP]
            refine ⟨⟨?_, by rw [if_neg (by have := HS.out; omega), hpd]; rfl⟩, fun _ m hm => by rw [hpd] at hm; exact absurd hm (by simp)⟩
            rw [← ER.out]
            exact hRw6.trans (ho.below (Nat.le_of_lt hR6.lt) (fun x hx => by rw [hx]; exact Nat.le_refl _)))
          have HR6 := Lib.hid hR6
          have hqn : q < w6.heap.size := hb16.lt
          have hRn : R < w6.heap.size := hR6.lt
          have hgn : g < w6.heap.size := hk6.lt
          have ngR : g ≠ R := hk6.ne_blk hR6 (by decide)
          have ngR2 : R ≠ g := fun e => ngR e.symm
          have nqR : q ≠ R := by omega
          have nqR2 : R ≠ q := by omega
          have z0 : w6.cell? ⟨R, 0, none⟩ = some (.int .u64 0) := HR6.out.cell 0
          have fz0 : w6.frozen? ⟨R, 0, none⟩ = false := HR6.out.free 0
          have z1 : w6.cell? ⟨R, 1, none⟩ = some (.int .i64 0) := HR6.out.cell 1
          have fz1 : w6.frozen? ⟨R, 1, none⟩ = false := HR6.out.free 1
          have z2 : w6.cell? ⟨R, 2, none⟩ = some (.int .i64 0) := HR6.out.cell 2
          have fz2 : w6.frozen? ⟨R, 2, none⟩ = false := HR6.out.free 2
          have z3 : w6.cell? ⟨R, 3, none⟩ = some (.int .i64 0) := HR6.out.cell 3
          have fz3 : w6.frozen? ⟨R, 3, none⟩ = false := HR6.out.free 3
          have z4 : w6.cell? ⟨R, 4, none⟩ = some (.int .u64 0) := HR6.out.cell 4
          have fz4 : w6.frozen? ⟨R, 4, none⟩ = false := HR6.out.free 4
          have z5 : w6.cell? ⟨R, 5, none⟩ = some (.int .u64 0) := HR6.out.cell 5
          have fz5 : w6.frozen? ⟨R, 5, none⟩ = false := HR6.out.free 5
          have z6 : w6.cell? ⟨R, 6, none⟩ = some (.int .u64 0) := HR6.out.cell 6
          have fz6 : w6.frozen? ⟨R, 6, none⟩ = false := HR6.out.free 6
          have z7 : w6.cell? ⟨R, 7, none⟩ = some (.int .u64 0) := HR6.out.cell 7
          have fz7 : w6.frozen? ⟨R, 7, none⟩ = false := HR6.out.free 7
          have z8 : w6.cell? ⟨R, 8, none⟩ = some (.int .u32 0) := HR6.out.cell 8
          have fz8 : w6.frozen? ⟨R, 8, none⟩ = false := HR6.out.free 8
          have z9 : w6.cell? ⟨R, 9, none⟩ = some (.int .i64 0) := HR6.out.cell 9
          have fz9 : w6.frozen? ⟨R, 9, none⟩ = false := HR6.out.free 9
          have z10 : w6.cell? ⟨R, 10, none⟩ = some (.slice none 0 0) := HR6.out.cell 10
          have fz10 : w6.frozen? ⟨R, 10, none⟩ = false := HR6.out.free 10
          have z11 : w6.cell? ⟨R, 11, none⟩ = some (.slice none 0 0) := HR6.out.cell 11
          have fz11 : w6.frozen? ⟨R, 11, none⟩ = false := HR6.out.free 11
          clear herr ht hb16 h0 h1 eTP hR6 hk6 hRw6 HPA HPAR hb6
          go_wp2_with fail
          go_region_held3 (fun w' => w'.cell? ⟨q, 0, none⟩ = some (.slice (some ⟨g, 0, none⟩) NL cap) ∧ w'.cell? ⟨q, 1, none⟩ = some (.int .i64 (ix1 : Nat)) ∧ w'.cell? ⟨g, ix1 * 2 + 1, none⟩ = some (.int .i64 (TP : Nat)))
            (go_keep)
            (fail)
          all_goals
            clear c0 c1 k1 z0 fz0 z1 fz1 z2 fz2 z3 fz3 z4 fz4 z5 fz5 z6 fz6 z7 fz7 z8 fz8 z9 fz9 z10 fz10 z11 fz11 ngR ngR2 nqR nqR2 hqn hRn hgn
            go_wp2_with fail
            first
              | exact bodyPost_ret (rparse_results _ _ R _ _ rfl rfl rfl (blk_drew (HR6.out.sets _ _ _ _ _ _ _ _ _ _ _ _))) rfl (HF.out _ (OnlyP.sets (O := fun b => b = R) (R := R) (.inl rfl) [_, _, _, _, _, _, _, _, _, _, _, _] 0 w6 (OnlyP.refl _ _)).drew)
        · simp only [if_true] at hm
          obtain ⟨ix1, r1, vb1, vs1, hok, hix1, hr1, hsl1, hbl1, hbi1⟩ := hm
          have HREL := Lib.hid (show ∃ (p' ix : Nat) (r : RSt) (vb vs : Value), Value.int .i64 ((p : Int) + 1) = .int .i64 (p' : Nat) ∧ p' ≤ 8 ∧ ix < NL ∧ RdS q w6 q (.slice (some ⟨g, 0, none⟩) NL cap) ix r vb vs (decide (p' = 8)) ∧ Below q w2 w6 ∧ r.m.slots.length ≤ ix ∧ (2 < p' → 1 ≤ r.m.bl) ∧ (p' ≤ 7 → r.m.bits = fun _ => false) ∧ parseD s = partsF s (8 - p') p' r (LT.drop ix) from
            ⟨p + 1, ix1, r1, vb1, vs1, by go_num, by omega, by rw [ENL.out]; exact hix1, by rw [show decide (p + 1 = 8) = decide (p = 7) by rw [decide_eq_decide]; omega]; exact hr1, HB6.out, hsl1, fun h => hbl1 (by omega), fun h => by rw [hbi1 (by omega)]; exact HBI.out (by omega), by rw [HPAR.out, parts_ok s p hp8 r r1 _ _ hok]⟩)
          clear hok hix1 hr1 hsl1 hbl1 hbi1 HPA HPAR hb6 hR6 hk6 hRw6
          go_wp2_with fail
          go_roundw
          case rel => exact HREL.out
          case measure => simp [intOf]; omega
      · obtain rfl : p = 8 := by omega
        obtain ⟨t, ht⟩ : ∃ t, LT[ix]? = some t := ⟨_, List.getElem?_eq_getElem (by rw [← ENL.out]; exact hix)⟩
        rw [show 8 - 8 = 0 from rfl, drop_get ht] at hpar
        obtain ⟨TX, eTX⟩ : ∃ x, x = t.tx s := ⟨_, rfl⟩
        obtain ⟨TP, eTP⟩ : ∃ x, x = t.pl := ⟨_, rfl⟩
        have hqr := hr.blk
        have c0 : wr.cell? ⟨q, 0, none⟩ = some (.slice (some ⟨g, 0, none⟩) NL cap) := by rw [hqr.cell]; rfl
        have c1 : wr.cell? ⟨q, 1, none⟩ = some (.int .i64 (ix : Nat)) := by rw [hqr.cell]; rfl
        have k0 : wr.cell? ⟨g, ix * 2, none⟩ = some (.string TX) := by rw [hkw.cell, eTX]; exact (hkc ix t ht).1
        have HTP := Lib.hid (show wr.cell? ⟨g, ix * 2 + 1, none⟩ = some (.int .i64 (TP : Nat)) by rw [hkw.cell, eTP]; exact (hkc ix t ht).2)
        have HPAR := Lib.hid hpar
        have HRD8 := Lib.hid hr
        have HRW := Lib.hid hRw
        have HR3 := Lib.hid hR3
        have HTO := Lib.hid (HTOK.out t (List.mem_of_getElem? ht))
        have HSL := Lib.hid hsl
        have d5 : decide ((8 : Int) < 8) = false := by decide
        have hqw2 : q < wr.heap.size := hqr.lt
        clear hr hb hsl hbl hbits hpar hkb hkc hkw hR3 hRw e' hqr ht hp hp8
        by_cases hfin : ∃ a, t = .fin a
        · obtain ⟨a, rfl⟩ := hfin
          have hTX : TX = ByteArray.empty := eTX
          have x3 : (TX.toList == []) = true := by rw [hTX, ByteArray.toList_eq]; rfl
          have x4 : (TX.toList != []) = false := by rw [hTX, ByteArray.toList_eq]; rfl
          clear eTX eTP hTX
          go_wp2_with fail
          go_quiet (fail)
          obtain ⟨w6, e6⟩ : ∃ x, x = wr.drewN nq := ⟨_, rfl⟩
          rw [← e6]
          have hR6 : Blk w6 R 31 #[.int .u64 0, .int .i64 0, .int .i64 0, .int .i64 0, .int .u64 0, .int .u64 0, .int .u64 0, .int .u64 0, .int .u32 0, .int .i64 0, .slice none 0 0, .slice none 0 0] := by rw [e6]; exact HR3.out.drewN nq
          have hr6 : RdS q w6 q (.slice (some ⟨g, 0, none⟩) NL cap) ix r vb vs true := by rw [e6]; exact HRD8.out.drewN nq
          have hRw6 : Below R w w6 := by rw [e6]; exact below_drewN HRW.out nq
          have hwb := hr6.bits
          simp only [if_true] at hwb
          obtain ⟨B, hvb, hBq, hrb⟩ := hwb
          obtain ⟨As, cs7, hvs⟩ := own_sl hr6.slots
          subst hvb
          subst hvs
          have HF := Lib.hid (fun w7 (ho : OnlyP (fun b => b = R) w6 w7) => show Q (.returned (.tuple #[.agg (r.m.arr (.slice (some ⟨B, 0, none⟩) ((r.m.bl + 63) / 64) ((r.m.bl + 63) / 64)) (.slice As r.m.slots.length cs7)), .int .i64 0, .int .i64 0])) w7 by
            rw [EQ.out]
            have hpd : parseD s = .ok r.m := HPAR.out
            refine ⟨⟨?_, ?_⟩, fun _ m hm => ?_⟩
            · rw [← ER.out]
              exact hRw6.trans (ho.below (Nat.le_of_lt hR6.lt) (fun x hx => by rw [hx]; exact Nat.le_refl _))
            · rw [if_neg (by have := HS.out; omega), hpd]
              refine ⟨_, _, rfl, ⟨B, rfl, by rw [← ER.out]; omega, hrb.only ho (fun hx => by omega)⟩, own_lower (own_only hr6.slots ho (fun b hb => by omega)) (by rw [← ER.out]; omega)⟩
            · rw [hpd] at hm
              simp only [Except.ok.injEq] at hm
              rw [← hm]
              exact ⟨hr6.bl, by have := HSL.out; omega⟩)
          unfold Dm.arr at HF
          obtain ⟨L, eL⟩ : ∃ L, L = r.m.slots.length := ⟨_, rfl⟩
          obtain ⟨W, eW⟩ : ∃ W, W = (r.m.bl + 63) / 64 := ⟨_, rfl⟩
          obtain ⟨sq, esq⟩ : ∃ x, x = r.m.sq := ⟨_, rfl⟩
          obtain ⟨bl, ebl⟩ : ∃ x, x = r.m.bl := ⟨_, rfl⟩
          obtain ⟨sz, esz⟩ : ∃ x, x = r.m.sz := ⟨_, rfl⟩
          obtain ⟨sl, esl⟩ : ∃ x, x = r.m.sl := ⟨_, rfl⟩
          obtain ⟨g0, eg0⟩ : ∃ x, x = r.m.g0 := ⟨_, rfl⟩
          obtain ⟨g1, eg1⟩ : ∃ x, x = r.m.g1 := ⟨_, rfl⟩
          obtain ⟨g2, eg2⟩ : ∃ x, x = r.m.g2 := ⟨_, rfl⟩
          obtain ⟨g3, eg3⟩ : ∃ x, x = r.m.g3 := ⟨_, rfl⟩
          obtain ⟨fl, efl⟩ : ∃ x, x = r.m.fl := ⟨_, rfl⟩
          obtain ⟨mr, emr⟩ : ∃ x, x = r.m.mr := ⟨_, rfl⟩
          have y0 : w6.cell? ⟨q, 2, none⟩ = some (.int .u64 (sq : Nat)) := by rw [hr6.blk.cell, esq]; rfl
          have y1 : w6.cell? ⟨q, 3, none⟩ = some (.int .i64 (bl : Nat)) := by rw [hr6.blk.cell, ebl]; rfl
          have y2 : w6.cell? ⟨q, 4, none⟩ = some (.int .i64 (sz : Nat)) := by rw [hr6.blk.cell, esz]; rfl
          have y3 : w6.cell? ⟨q, 5, none⟩ = some (.int .i64 (sl : Nat)) := by rw [hr6.blk.cell, esl]; rfl
          have y4 : w6.cell? ⟨q, 6, none⟩ = some (.int .u64 (g0 : Nat)) := by rw [hr6.blk.cell, eg0]; rfl
          have y5 : w6.cell? ⟨q, 7, none⟩ = some (.int .u64 (g1 : Nat)) := by rw [hr6.blk.cell, eg1]; rfl
          have y6 : w6.cell? ⟨q, 8, none⟩ = some (.int .u64 (g2 : Nat)) := by rw [hr6.blk.cell, eg2]; rfl
          have y7 : w6.cell? ⟨q, 9, none⟩ = some (.int .u64 (g3 : Nat)) := by rw [hr6.blk.cell, eg3]; rfl
          have y8 : w6.cell? ⟨q, 10, none⟩ = some (.int .u32 (fl : Nat)) := by rw [hr6.blk.cell, efl]; rfl
          have y9 : w6.cell? ⟨q, 11, none⟩ = some (.int .i64 (mr : Nat)) := by rw [hr6.blk.cell, emr]; rfl
          have y10 : w6.cell? ⟨q, 12, none⟩ = some (.slice (some ⟨B, 0, none⟩) W W) := by rw [hr6.blk.cell, eW]; rfl
          have y11 : w6.cell? ⟨q, 13, none⟩ = some (.slice As L cs7) := by rw [hr6.blk.cell, eL]; rfl
          rw [← eL, ← eW, ← esq, ← ebl, ← esz, ← esl, ← eg0, ← eg1, ← eg2, ← eg3, ← efl, ← emr] at HF
          have HR6 := Lib.hid hR6
          have nqR : q ≠ R := by omega
          have nqR2 : R ≠ q := by omega
          have hqn : q < w6.heap.size := hr6.blk.lt
          have hRn : R < w6.heap.size := hR6.lt
          have z0 : w6.cell? ⟨R, 0, none⟩ = some (.int .u64 0) := HR6.out.cell 0
          have fz0 : w6.frozen? ⟨R, 0, none⟩ = false := HR6.out.free 0
          have z1 : w6.cell? ⟨R, 1, none⟩ = some (.int .i64 0) := HR6.out.cell 1
          have fz1 : w6.frozen? ⟨R, 1, none⟩ = false := HR6.out.free 1
          have z2 : w6.cell? ⟨R, 2, none⟩ = some (.int .i64 0) := HR6.out.cell 2
          have fz2 : w6.frozen? ⟨R, 2, none⟩ = false := HR6.out.free 2
          have z3 : w6.cell? ⟨R, 3, none⟩ = some (.int .i64 0) := HR6.out.cell 3
          have fz3 : w6.frozen? ⟨R, 3, none⟩ = false := HR6.out.free 3
          have z4 : w6.cell? ⟨R, 4, none⟩ = some (.int .u64 0) := HR6.out.cell 4
          have fz4 : w6.frozen? ⟨R, 4, none⟩ = false := HR6.out.free 4
          have z5 : w6.cell? ⟨R, 5, none⟩ = some (.int .u64 0) := HR6.out.cell 5
          have fz5 : w6.frozen? ⟨R, 5, none⟩ = false := HR6.out.free 5
          have z6 : w6.cell? ⟨R, 6, none⟩ = some (.int .u64 0) := HR6.out.cell 6
          have fz6 : w6.frozen? ⟨R, 6, none⟩ = false := HR6.out.free 6
          have z7 : w6.cell? ⟨R, 7, none⟩ = some (.int .u64 0) := HR6.out.cell 7
          have fz7 : w6.frozen? ⟨R, 7, none⟩ = false := HR6.out.free 7
          have z8 : w6.cell? ⟨R, 8, none⟩ = some (.int .u32 0) := HR6.out.cell 8
          have fz8 : w6.frozen? ⟨R, 8, none⟩ = false := HR6.out.free 8
          have z9 : w6.cell? ⟨R, 9, none⟩ = some (.int .i64 0) := HR6.out.cell 9
          have fz9 : w6.frozen? ⟨R, 9, none⟩ = false := HR6.out.free 9
          have z10 : w6.cell? ⟨R, 10, none⟩ = some (.slice none 0 0) := HR6.out.cell 10
          have fz10 : w6.frozen? ⟨R, 10, none⟩ = false := HR6.out.free 10
          have z11 : w6.cell? ⟨R, 11, none⟩ = some (.slice none 0 0) := HR6.out.cell 11
          have fz11 : w6.frozen? ⟨R, 11, none⟩ = false := HR6.out.free 11
          clear eL eW esq ebl esz esl eg0 eg1 eg2 eg3 efl emr hr6 hRw6 hrb hR6 e6 c0 c1 k0 hBq
          go_wp2_with fail
          first
            | exact bodyPost_ret (rparse_results _ _ R _ _ rfl rfl rfl (HR6.out.sets _ _ _ _ _ _ _ _ _ _ _ _)) rfl (HF.out _ (OnlyP.sets (O := fun b => b = R) (R := R) (.inl rfl) [_, _, _, _, _, _, _, _, _, _, _, _] 0 w6 (OnlyP.refl _ _)))
        · have hTX : TX ≠ ByteArray.empty := by
            rw [eTX]
            cases t with
            | word a b => exact word_n0 s a b HTO.out
            | semi a => exact (by decide : bSemi ≠ ByteArray.empty)
            | bad a => exact (by decide : bBad ≠ ByteArray.empty)
            | fin a => exact absurd ⟨a, rfl⟩ hfin
          have x3 : (TX.toList == []) = false := by
            have h9 := str_eq TX ByteArray.empty
            rw [decide_eq_false hTX, show ByteArray.empty.toList = [] from by rw [ByteArray.toList_eq]; rfl] at h9
            exact h9
          have x4 : (TX.toList != []) = true := by rw [bne, x3]; rfl
          have HPD := Lib.hid (show parseD s = .error TP by
            rw [HPAR.out, eTP]
            cases t with
            | word a b => rfl
            | semi a => rfl
            | bad a => rfl
            | fin a => exact absurd ⟨a, rfl⟩ hfin)
          clear eTX eTP hTX hfin
          go_wp2_with fail
          go_quiet (fail)
          obtain ⟨w6, e6⟩ : ∃ x, x = wr.drewN nq := ⟨_, rfl⟩
          rw [← e6]
          have hR6 : Blk w6 R 31 #[.int .u64 0, .int .i64 0, .int .i64 0, .int .i64 0, .int .u64 0, .int .u64 0, .int .u64 0, .int .u64 0, .int .u32 0, .int .i64 0, .slice none 0 0, .slice none 0 0] := by rw [e6]; exact HR3.out.drewN nq
          have hRw6 : Below R w w6 := by rw [e6]; exact below_drewN HRW.out nq
          have c0' : w6.cell? ⟨q, 0, none⟩ = some (.slice (some ⟨g, 0, none⟩) NL cap) := by rw [e6]; exact c0
          have c1' : w6.cell? ⟨q, 1, none⟩ = some (.int .i64 (ix : Nat)) := by rw [e6]; exact c1
          have k1 : w6.cell? ⟨g, ix * 2 + 1, none⟩ = some (.int .i64 (TP : Nat)) := by rw [e6]; exact HTP.out
          have hk6 : Blk w6 g 60 cs := by rw [e6]; exact HKW.out.drewN nq
          have HF := Lib.hid (fun w7 (ho : OnlyP (fun b => b = R) w6 w7) => show Q (.returned (.tuple #[.agg #[.int .u64 0, .int .i64 0, .int .i64 0, .int .i64 0, .int .u64 0, .int .u64 0, .int .u64 0, .int .u64 0, .int .u32 0, .int .i64 0, .slice none 0 0, .slice none 0 0], .int .i64 (TP : Nat), .int .i64 191])) w7 by
            rw [EQ.out]
            refine ⟨⟨?_, by rw [if_neg (by have := HS.out; omega), HPD.out]; rfl⟩, fun _ m hm => by rw [HPD.out] at hm; exact absurd hm (by simp)⟩
            rw [← ER.out]
            exact hRw6.trans (ho.below (Nat.le_of_lt hR6.lt) (fun x hx => by rw [hx]; exact Nat.le_refl _)))
          have HR6 := Lib.hid hR6
          have hqn : q < w6.heap.size := by rw [e6]; exact hqw2
          have hRn : R < w6.heap.size := hR6.lt
          have hgn : g < w6.heap.size := hk6.lt
          have ngR : g ≠ R := hk6.ne_blk hR6 (by decide)
          have ngR2 : R ≠ g := fun e => ngR e.symm
          have nqR : q ≠ R := by omega
          have nqR2 : R ≠ q := by omega
          have z0 : w6.cell? ⟨R, 0, none⟩ = some (.int .u64 0) := HR6.out.cell 0
          have fz0 : w6.frozen? ⟨R, 0, none⟩ = false := HR6.out.free 0
          have z1 : w6.cell? ⟨R, 1, none⟩ = some (.int .i64 0) := HR6.out.cell 1
          have fz1 : w6.frozen? ⟨R, 1, none⟩ = false := HR6.out.free 1
          have z2 : w6.cell? ⟨R, 2, none⟩ = some (.int .i64 0) := HR6.out.cell 2
          have fz2 : w6.frozen? ⟨R, 2, none⟩ = false := HR6.out.free 2
          have z3 : w6.cell? ⟨R, 3, none⟩ = some (.int .i64 0) := HR6.out.cell 3
          have fz3 : w6.frozen? ⟨R, 3, none⟩ = false := HR6.out.free 3
          have z4 : w6.cell? ⟨R, 4, none⟩ = some (.int .u64 0) := HR6.out.cell 4
          have fz4 : w6.frozen? ⟨R, 4, none⟩ = false := HR6.out.free 4
          have z5 : w6.cell? ⟨R, 5, none⟩ = some (.int .u64 0) := HR6.out.cell 5
          have fz5 : w6.frozen? ⟨R, 5, none⟩ = false := HR6.out.free 5
          have z6 : w6.cell? ⟨R, 6, none⟩ = some (.int .u64 0) := HR6.out.cell 6
          have fz6 : w6.frozen? ⟨R, 6, none⟩ = false := HR6.out.free 6
          have z7 : w6.cell? ⟨R, 7, none⟩ = some (.int .u64 0) := HR6.out.cell 7
          have fz7 : w6.frozen? ⟨R, 7, none⟩ = false := HR6.out.free 7
          have z8 : w6.cell? ⟨R, 8, none⟩ = some (.int .u32 0) := HR6.out.cell 8
          have fz8 : w6.frozen? ⟨R, 8, none⟩ = false := HR6.out.free 8
          have z9 : w6.cell? ⟨R, 9, none⟩ = some (.int .i64 0) := HR6.out.cell 9
          have fz9 : w6.frozen? ⟨R, 9, none⟩ = false := HR6.out.free 9
          have z10 : w6.cell? ⟨R, 10, none⟩ = some (.slice none 0 0) := HR6.out.cell 10
          have fz10 : w6.frozen? ⟨R, 10, none⟩ = false := HR6.out.free 10
          have z11 : w6.cell? ⟨R, 11, none⟩ = some (.slice none 0 0) := HR6.out.cell 11
          have fz11 : w6.frozen? ⟨R, 11, none⟩ = false := HR6.out.free 11
          clear hR6 hk6 hRw6 e6 c0 c1 k0 HPAR HTP
          go_wp2_with fail
          go_region_held3 (fun w' => w'.cell? ⟨q, 0, none⟩ = some (.slice (some ⟨g, 0, none⟩) NL cap) ∧ w'.cell? ⟨q, 1, none⟩ = some (.int .i64 (ix : Nat)) ∧ w'.cell? ⟨g, ix * 2 + 1, none⟩ = some (.int .i64 (TP : Nat)))
            (go_keep)
            (fail)
          all_goals
            clear c0' c1' k1 z0 fz0 z1 fz1 z2 fz2 z3 fz3 z4 fz4 z5 fz5 z6 fz6 z7 fz7 z8 fz8 z9 fz9 z10 fz10 z11 fz11 ngR ngR2 nqR nqR2 hqn hRn hgn
            go_wp2_with fail
            first
              | exact bodyPost_ret (rparse_results _ _ R _ _ rfl rfl rfl (blk_drew (HR6.out.sets _ _ _ _ _ _ _ _ _ _ _ _))) rfl (HF.out _ (OnlyP.sets (O := fun b => b = R) (R := R) (.inl rfl) [_, _, _, _, _, _, _, _, _, _, _, _] 0 w6 (OnlyP.refl _ _)).drew)
end Go.Proofs.YtbfebfeliddpnaaDoor
