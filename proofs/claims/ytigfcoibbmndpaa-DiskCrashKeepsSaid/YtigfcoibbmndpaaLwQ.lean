/- A call that may not be, and its answer: refused. Printed by wip/tools/gen_ref.py. -/
import Derived.Test.YtigfcoibbmndpaaLwL
import Derived.Test.YtigfcoibbmndpaaLwO
import Derived.Outline
namespace Go.Proofs.Ytigfcoibbmndpaa
open Go.RowKit
open Go.ChangeMaps
set_option linter.unusedVariables false
set_option linter.unusedSimpArgs false
/-- The disk behind such a call. -/
noncomputable def refS (s : DSt) (o : OpV) : DSt := if o.kind = 1 then readS s o.blk else s
theorem readS_alike (s : DSt) (j : Int) : Alike s (readS s j) ∧ (Live s → Live (readS s j)) := by
  unfold readS
  by_cases h : readE s j = 0
  · rw [if_pos h]; exact ⟨⟨rfl, rfl, rfl, rfl, rfl, rfl⟩, fun h => h⟩
  · rw [if_neg h]; exact ⟨Alike.refl s, fun h => h⟩
theorem refS_alike (s : DSt) (o : OpV) : Alike s (refS s o) ∧ (Live s → Live (refS s o)) := by
  unfold refS
  by_cases h : o.kind = 1
  · rw [if_pos h]; exact readS_alike s _
  · rw [if_neg h]; exact ⟨Alike.refl s, fun h => h⟩
def RfQ (O : Nat → Prop) (w : World) (d : Nat) (s : DSt) (e : Ending) (w' : World) : Prop := e = .returned (.bool true) ∧ DStep O w w' d s
theorem DStep.drewN {O : Nat → Prop} {w w' : World} {d : Nat} {s : DSt} (h : DStep O w w' d s) (n : Nat) : DStep O w (w'.drewN n) d s :=
  let ⟨hon, O', hd, hO⟩ := h; ⟨hon.drewN n, O', hd.drewN n, hO⟩
theorem not_inr {s : DSt} {j : Int} (h : j < 0 ∨ (s.nb : Int) ≤ j) : ¬ s.inr j := fun hc => by have h1 := hc.1; have h2 := hc.2; omega
theorem readE_out {s : DSt} {j : Int} (h : j < 0 ∨ (s.nb : Int) ≤ j) : readE s j = 2 := by unfold readE; rw [if_pos (not_inr h)]
theorem durE_out {s : DSt} {j : Int} (h : j < 0 ∨ (s.nb : Int) ≤ j) : durE s j = 2 := by unfold durE; rw [if_pos (not_inr h)]
theorem spoil_out {s : DSt} {j : Int} (h : j < 0 ∨ (s.nb : Int) ≤ j) : spoilE s j = 2 ∧ spoilS s j = s := by unfold spoilE spoilS; rw [if_neg (not_inr h), if_neg (not_inr h)]; exact ⟨rfl, rfl⟩
theorem write_out {s : DSt} {j : Int} (h : j < 0 ∨ (s.nb : Int) ≤ j) (xs : List Int) : writeE s j xs.length = 2 ∧ writeS s j xs = s ∧ throughS s j xs = s := by
  have hw : wrE s j xs.length = 2 := by unfold wrE; rw [if_neg (not_inr h)]
  unfold writeE writeS throughS; rw [hw]; simp
theorem write_len {s : DSt} {j : Int} (h1 : 0 ≤ j) (h2 : j < s.nb) (xs : List Int) (hl : xs.length ≠ s.sz) : writeE s j xs.length = 3 ∧ writeS s j xs = s ∧ throughS s j xs = s := by
  have hw : wrE s j xs.length = 3 := by unfold wrE; rw [if_pos ⟨h1, h2⟩, if_neg hl]
  unfold writeE writeS throughS; rw [hw]; simp
theorem zero_bad1 {s : DSt} {f c : Int} (h : c < 0) : zeroR s f c = (s, 1, f) := by unfold zeroR; rw [if_pos h]
theorem zero_bad2 {s : DSt} {f c : Int} (h0 : ¬ c < 0) (h : f < 0 ∨ (s.nb : Int) < f ∨ (s.nb : Int) - f < c) : zeroR s f c = (s, 2, f) := by unfold zeroR; rw [if_neg h0, if_pos h]
theorem trB_2 (j : Int) : trB 2 j = j := rfl
theorem trB_3 (j : Int) : trB 3 j = j := rfl
theorem trB_1 (j : Int) : trB 1 j = j := rfl
set_option maxHeartbeats 1000000 in
set_option maxRecDepth 100000 in
theorem ref_1in (O : Nat → Prop) (w : World) (d : Nat) (s : DSt) (o : OpV) (h : DRep O w d s) (hr : RdN O w o.dv o.data) (hcap : ∀ k, ((s.ca k).length + 1) * 24 ≤ 200000000000000) (hI1 : I64 o.blk) (hI2 : I64 o.cnt) (hk : o.kind = 1) (h1 : 0 ≤ o.blk) (h2 : o.blk < s.nb) :
    Calls Try.prog 29 #[.pointer (some ⟨d, 0, none⟩), o.agg, .int .i64 s.nb, .int .i64 s.sz] w (RfQ O w d (refS s o)) := by
  have hwf := h.wf
  have n1 := hwf.nb1
  have n2 := hwf.nb2
  have n3 := hwf.sz1
  obtain ⟨A, cp, edv⟩ := hr.1.slice
  obtain ⟨Q, eQ⟩ : ∃ Q, Q = RfQ O w d (refS s o) := ⟨_, rfl⟩
  rw [← eQ]
  have HRS : Hid (readS s o.blk = refS s o) := Lib.hid (by unfold refS; rw [if_pos hk])
  obtain ⟨kind, blk, cnt, dv, data⟩ := o
  dsimp only at edv hk h1 h2 hI1 hI2 HRS
  subst edv
  obtain ⟨L, eL⟩ : ∃ L, L = data.length := ⟨_, rfl⟩
  simp only [OpV.agg]
  rw [← eL]
  obtain ⟨w1, e1⟩ : ∃ w1, w1 = w.alloc (.cells #[.int .i64 kind, .int .i64 blk, .int .i64 cnt, .slice A L cp] 61) := ⟨_, rfl⟩
  have hb1 : Below w.heap.size w w1 := by rw [e1]; exact (Below.refl _ _).alloc (Nat.le_refl _) _
  obtain ⟨NB, eNB⟩ : ∃ NB, NB = s.nb := ⟨_, rfl⟩
  obtain ⟨SZ, eSZ⟩ : ∃ SZ, SZ = s.sz := ⟨_, rfl⟩
  have HFIN : Hid (∀ w2 s2, DStep O w1 w2 d s2 → s2 = readS s blk → Q (.returned (.bool true)) w2) := Lib.hid (fun w2 s2 h2 e => by
    rw [eQ, ← HRS.out, ← e]; exact ⟨rfl, DStep.comp (OnlyP.ofBelow hb1) (fun b hb => .inl hb) h2⟩)
  have HSAME : Hid (DStep O w1 w1 d s) := Lib.hid ⟨OnlyP.refl _ _, O, h.below hb1, fun b hb => .inl hb⟩
  have HD1 := Lib.hid (h.below hb1)
  have HR1 : Hid (RdN O w1 (.slice A L cp) data) := Lib.hid ⟨by rw [eL]; exact hr.1.below hb1, by rw [eL]; exact hr.2⟩
  have HOP : Hid (∀ w2 s2 n, DStep O w1 w2 d s2 → (w2.drewN n).cell? ⟨w.heap.size, 1, none⟩ = some (.int .i64 blk) ∧ (w2.drewN n).cell? ⟨w.heap.size, 2, none⟩ = some (.int .i64 cnt)) := Lib.hid (fun w2 s2 n h2 => by
    have hbk : Blk w1 w.heap.size 61 #[.int .i64 kind, .int .i64 blk, .int .i64 cnt, .slice A L cp] := by rw [e1]; exact Blk.new _ _ _
    have hk2 : Blk (w2.drewN n) w.heap.size 61 #[.int .i64 kind, .int .i64 blk, .int .i64 cnt, .slice A L cp] := (h2.1.block _ hbk.lt (fun hc => by have := h.lt hc; omega)).trans hbk
    exact ⟨hk2.cell 1, hk2.cell 2⟩)
  have EL := Lib.hid eL
  have HCAP := Lib.hid hcap
  have HCA2 : Hid (∀ k, (s.ca k).length ≤ 100000000000000) := Lib.hid (fun k => by have := hcap k; omega)
  have HI1 := Lib.hid hI1
  have HI2 := Lib.hid hI2
  subst hk
  have HX := Lib.hid h2
  rw [← eNB, ← eSZ]
  rw [← eNB] at n1 n2 h2
  rw [← eSZ] at n3 
  have b1 : decide (blk < 0) = false := decide_eq_false (by omega)
  have b2 : decide ((NB : Int) ≤ blk) = false := decide_eq_false (by omega)
  subst e1
  clear h hr hcap hI1 hI2 eQ eL hb1 hwf eNB eSZ HRS 
  go_enter Try.func29, Try.ntmps29
  go_wp2_with fail
  refine (read_ok O _ d s blk HD1.out (HCA2.out _)).mono ?_
  rintro e w2 ⟨v, er, rfl, _, her, hon, hdr⟩
  have HST := Lib.hid (show DStep O _ w2 d (readS s blk) from ⟨hon, O, hdr, fun b hb => .inl hb⟩)
  have HTR := Lib.hid (trouble_ok _ w2 er _ _ her)
  clear her HD1 HR1 HSAME
  go_wp2_with fail
  refine HTR.out.mono ?_
  rintro e w3 ⟨rfl, nn, hw3⟩
  have HF := Lib.hid (HFIN.out w3 _ (by rw [hw3]; exact HST.out.drewN nn) rfl)
  obtain ⟨c1, c2⟩ := HOP.out w2 _ nn HST.out
  rw [← hw3] at c1 c2
  clear hw3 HTR HFIN HST HOP
  (try simp only [trB_1, trB_2, trB_3])
  go_wp2_with fail
  first | exact HF.out | (go_ret; exact HF.out)
set_option maxHeartbeats 1000000 in
set_option maxRecDepth 100000 in
theorem ref_8in (O : Nat → Prop) (w : World) (d : Nat) (s : DSt) (o : OpV) (h : DRep O w d s) (hr : RdN O w o.dv o.data) (hcap : ∀ k, ((s.ca k).length + 1) * 24 ≤ 200000000000000) (hI1 : I64 o.blk) (hI2 : I64 o.cnt) (hk : o.kind = 8) (h1 : 0 ≤ o.blk) (h2 : o.blk < s.nb) :
    Calls Try.prog 29 #[.pointer (some ⟨d, 0, none⟩), o.agg, .int .i64 s.nb, .int .i64 s.sz] w (RfQ O w d (refS s o)) := by
  have hwf := h.wf
  have n1 := hwf.nb1
  have n2 := hwf.nb2
  have n3 := hwf.sz1
  obtain ⟨A, cp, edv⟩ := hr.1.slice
  obtain ⟨Q, eQ⟩ : ∃ Q, Q = RfQ O w d (refS s o) := ⟨_, rfl⟩
  rw [← eQ]
  have HRS : Hid (s = refS s o) := Lib.hid (by unfold refS; rw [if_neg (by rw [hk]; decide)])
  obtain ⟨kind, blk, cnt, dv, data⟩ := o
  dsimp only at edv hk h1 h2 hI1 hI2 HRS
  subst edv
  obtain ⟨L, eL⟩ : ∃ L, L = data.length := ⟨_, rfl⟩
  simp only [OpV.agg]
  rw [← eL]
  obtain ⟨w1, e1⟩ : ∃ w1, w1 = w.alloc (.cells #[.int .i64 kind, .int .i64 blk, .int .i64 cnt, .slice A L cp] 61) := ⟨_, rfl⟩
  have hb1 : Below w.heap.size w w1 := by rw [e1]; exact (Below.refl _ _).alloc (Nat.le_refl _) _
  obtain ⟨NB, eNB⟩ : ∃ NB, NB = s.nb := ⟨_, rfl⟩
  obtain ⟨SZ, eSZ⟩ : ∃ SZ, SZ = s.sz := ⟨_, rfl⟩
  have HFIN : Hid (∀ w2 s2, DStep O w1 w2 d s2 → s2 = s → Q (.returned (.bool true)) w2) := Lib.hid (fun w2 s2 h2 e => by
    rw [eQ, ← HRS.out, ← e]; exact ⟨rfl, DStep.comp (OnlyP.ofBelow hb1) (fun b hb => .inl hb) h2⟩)
  have HSAME : Hid (DStep O w1 w1 d s) := Lib.hid ⟨OnlyP.refl _ _, O, h.below hb1, fun b hb => .inl hb⟩
  have HD1 := Lib.hid (h.below hb1)
  have HR1 : Hid (RdN O w1 (.slice A L cp) data) := Lib.hid ⟨by rw [eL]; exact hr.1.below hb1, by rw [eL]; exact hr.2⟩
  have HOP : Hid (∀ w2 s2 n, DStep O w1 w2 d s2 → (w2.drewN n).cell? ⟨w.heap.size, 1, none⟩ = some (.int .i64 blk) ∧ (w2.drewN n).cell? ⟨w.heap.size, 2, none⟩ = some (.int .i64 cnt)) := Lib.hid (fun w2 s2 n h2 => by
    have hbk : Blk w1 w.heap.size 61 #[.int .i64 kind, .int .i64 blk, .int .i64 cnt, .slice A L cp] := by rw [e1]; exact Blk.new _ _ _
    have hk2 : Blk (w2.drewN n) w.heap.size 61 #[.int .i64 kind, .int .i64 blk, .int .i64 cnt, .slice A L cp] := (h2.1.block _ hbk.lt (fun hc => by have := h.lt hc; omega)).trans hbk
    exact ⟨hk2.cell 1, hk2.cell 2⟩)
  have EL := Lib.hid eL
  have HCAP := Lib.hid hcap
  have HCA2 : Hid (∀ k, (s.ca k).length ≤ 100000000000000) := Lib.hid (fun k => by have := hcap k; omega)
  have HI1 := Lib.hid hI1
  have HI2 := Lib.hid hI2
  subst hk
  have HX := Lib.hid h2
  rw [← eNB, ← eSZ]
  rw [← eNB] at n1 n2 h2
  rw [← eSZ] at n3 
  have b1 : decide (blk < 0) = false := decide_eq_false (by omega)
  have b2 : decide ((NB : Int) ≤ blk) = false := decide_eq_false (by omega)
  subst e1
  clear h hr hcap hI1 hI2 eQ eL hb1 hwf eNB eSZ HRS 
  go_enter Try.func29, Try.ntmps29
  go_wp2_with fail
  refine (durable_ok O _ d s blk HD1.out).mono ?_
  rintro e w2 ⟨v, er, rfl, _, her, hon, hdr⟩
  have HST := Lib.hid (show DStep O _ w2 d s from ⟨hon, O, hdr, fun b hb => .inl hb⟩)
  have HTR := Lib.hid (trouble_ok _ w2 er _ _ her)
  clear her HD1 HR1 HSAME
  go_wp2_with fail
  refine HTR.out.mono ?_
  rintro e w3 ⟨rfl, nn, hw3⟩
  have HF := Lib.hid (HFIN.out w3 _ (by rw [hw3]; exact HST.out.drewN nn) rfl)
  obtain ⟨c1, c2⟩ := HOP.out w2 _ nn HST.out
  rw [← hw3] at c1 c2
  clear hw3 HTR HFIN HST HOP
  (try simp only [trB_1, trB_2, trB_3])
  go_wp2_with fail
  first | exact HF.out | (go_ret; exact HF.out)
set_option maxHeartbeats 1000000 in
set_option maxRecDepth 100000 in
theorem ref_10in (O : Nat → Prop) (w : World) (d : Nat) (s : DSt) (o : OpV) (h : DRep O w d s) (hr : RdN O w o.dv o.data) (hcap : ∀ k, ((s.ca k).length + 1) * 24 ≤ 200000000000000) (hI1 : I64 o.blk) (hI2 : I64 o.cnt) (hk : o.kind = 10) (h1 : 0 ≤ o.blk) (h2 : o.blk < s.nb) :
    Calls Try.prog 29 #[.pointer (some ⟨d, 0, none⟩), o.agg, .int .i64 s.nb, .int .i64 s.sz] w (RfQ O w d (refS s o)) := by
  have hwf := h.wf
  have n1 := hwf.nb1
  have n2 := hwf.nb2
  have n3 := hwf.sz1
  obtain ⟨A, cp, edv⟩ := hr.1.slice
  obtain ⟨Q, eQ⟩ : ∃ Q, Q = RfQ O w d (refS s o) := ⟨_, rfl⟩
  rw [← eQ]
  have HRS : Hid (s = refS s o) := Lib.hid (by unfold refS; rw [if_neg (by rw [hk]; decide)])
  obtain ⟨kind, blk, cnt, dv, data⟩ := o
  dsimp only at edv hk h1 h2 hI1 hI2 HRS
  subst edv
  obtain ⟨L, eL⟩ : ∃ L, L = data.length := ⟨_, rfl⟩
  simp only [OpV.agg]
  rw [← eL]
  obtain ⟨w1, e1⟩ : ∃ w1, w1 = w.alloc (.cells #[.int .i64 kind, .int .i64 blk, .int .i64 cnt, .slice A L cp] 61) := ⟨_, rfl⟩
  have hb1 : Below w.heap.size w w1 := by rw [e1]; exact (Below.refl _ _).alloc (Nat.le_refl _) _
  obtain ⟨NB, eNB⟩ : ∃ NB, NB = s.nb := ⟨_, rfl⟩
  obtain ⟨SZ, eSZ⟩ : ∃ SZ, SZ = s.sz := ⟨_, rfl⟩
  have HFIN : Hid (∀ w2 s2, DStep O w1 w2 d s2 → s2 = s → Q (.returned (.bool true)) w2) := Lib.hid (fun w2 s2 h2 e => by
    rw [eQ, ← HRS.out, ← e]; exact ⟨rfl, DStep.comp (OnlyP.ofBelow hb1) (fun b hb => .inl hb) h2⟩)
  have HSAME : Hid (DStep O w1 w1 d s) := Lib.hid ⟨OnlyP.refl _ _, O, h.below hb1, fun b hb => .inl hb⟩
  have HD1 := Lib.hid (h.below hb1)
  have HR1 : Hid (RdN O w1 (.slice A L cp) data) := Lib.hid ⟨by rw [eL]; exact hr.1.below hb1, by rw [eL]; exact hr.2⟩
  have HOP : Hid (∀ w2 s2 n, DStep O w1 w2 d s2 → (w2.drewN n).cell? ⟨w.heap.size, 1, none⟩ = some (.int .i64 blk) ∧ (w2.drewN n).cell? ⟨w.heap.size, 2, none⟩ = some (.int .i64 cnt)) := Lib.hid (fun w2 s2 n h2 => by
    have hbk : Blk w1 w.heap.size 61 #[.int .i64 kind, .int .i64 blk, .int .i64 cnt, .slice A L cp] := by rw [e1]; exact Blk.new _ _ _
    have hk2 : Blk (w2.drewN n) w.heap.size 61 #[.int .i64 kind, .int .i64 blk, .int .i64 cnt, .slice A L cp] := (h2.1.block _ hbk.lt (fun hc => by have := h.lt hc; omega)).trans hbk
    exact ⟨hk2.cell 1, hk2.cell 2⟩)
  have EL := Lib.hid eL
  have HCAP := Lib.hid hcap
  have HCA2 : Hid (∀ k, (s.ca k).length ≤ 100000000000000) := Lib.hid (fun k => by have := hcap k; omega)
  have HI1 := Lib.hid hI1
  have HI2 := Lib.hid hI2
  subst hk
  have HX := Lib.hid h2
  rw [← eNB, ← eSZ]
  rw [← eNB] at n1 n2 h2
  rw [← eSZ] at n3 
  have b1 : decide (blk < 0) = false := decide_eq_false (by omega)
  have b2 : decide ((NB : Int) ≤ blk) = false := decide_eq_false (by omega)
  subst e1
  clear h hr hcap hI1 hI2 eQ eL hb1 hwf eNB eSZ HRS 
  go_enter Try.func29, Try.ntmps29
  go_wp2_with fail
  have HF := Lib.hid (HFIN.out _ s HSAME.out rfl)
  first | exact HF.out | (go_ret; exact HF.out)
set_option maxHeartbeats 1000000 in
set_option maxRecDepth 100000 in
theorem ref_2inf (O : Nat → Prop) (w : World) (d : Nat) (s : DSt) (o : OpV) (h : DRep O w d s) (hr : RdN O w o.dv o.data) (hcap : ∀ k, ((s.ca k).length + 1) * 24 ≤ 200000000000000) (hI1 : I64 o.blk) (hI2 : I64 o.cnt) (hk : o.kind = 2) (h1 : 0 ≤ o.blk) (h2 : o.blk < s.nb) (h3 : o.data.length = s.sz) :
    Calls Try.prog 29 #[.pointer (some ⟨d, 0, none⟩), o.agg, .int .i64 s.nb, .int .i64 s.sz] w (RfQ O w d (refS s o)) := by
  have hwf := h.wf
  have n1 := hwf.nb1
  have n2 := hwf.nb2
  have n3 := hwf.sz1
  obtain ⟨A, cp, edv⟩ := hr.1.slice
  obtain ⟨Q, eQ⟩ : ∃ Q, Q = RfQ O w d (refS s o) := ⟨_, rfl⟩
  rw [← eQ]
  have HRS : Hid (s = refS s o) := Lib.hid (by unfold refS; rw [if_neg (by rw [hk]; decide)])
  obtain ⟨kind, blk, cnt, dv, data⟩ := o
  dsimp only at edv hk h1 h2 h3 hI1 hI2 HRS
  subst edv
  obtain ⟨L, eL⟩ : ∃ L, L = data.length := ⟨_, rfl⟩
  simp only [OpV.agg]
  rw [← eL]
  obtain ⟨w1, e1⟩ : ∃ w1, w1 = w.alloc (.cells #[.int .i64 kind, .int .i64 blk, .int .i64 cnt, .slice A L cp] 61) := ⟨_, rfl⟩
  have hb1 : Below w.heap.size w w1 := by rw [e1]; exact (Below.refl _ _).alloc (Nat.le_refl _) _
  obtain ⟨NB, eNB⟩ : ∃ NB, NB = s.nb := ⟨_, rfl⟩
  obtain ⟨SZ, eSZ⟩ : ∃ SZ, SZ = s.sz := ⟨_, rfl⟩
  have HFIN : Hid (∀ w2 s2, DStep O w1 w2 d s2 → s2 = s → Q (.returned (.bool true)) w2) := Lib.hid (fun w2 s2 h2 e => by
    rw [eQ, ← HRS.out, ← e]; exact ⟨rfl, DStep.comp (OnlyP.ofBelow hb1) (fun b hb => .inl hb) h2⟩)
  have HSAME : Hid (DStep O w1 w1 d s) := Lib.hid ⟨OnlyP.refl _ _, O, h.below hb1, fun b hb => .inl hb⟩
  have HD1 := Lib.hid (h.below hb1)
  have HR1 : Hid (RdN O w1 (.slice A L cp) data) := Lib.hid ⟨by rw [eL]; exact hr.1.below hb1, by rw [eL]; exact hr.2⟩
  have HOP : Hid (∀ w2 s2 n, DStep O w1 w2 d s2 → (w2.drewN n).cell? ⟨w.heap.size, 1, none⟩ = some (.int .i64 blk) ∧ (w2.drewN n).cell? ⟨w.heap.size, 2, none⟩ = some (.int .i64 cnt)) := Lib.hid (fun w2 s2 n h2 => by
    have hbk : Blk w1 w.heap.size 61 #[.int .i64 kind, .int .i64 blk, .int .i64 cnt, .slice A L cp] := by rw [e1]; exact Blk.new _ _ _
    have hk2 : Blk (w2.drewN n) w.heap.size 61 #[.int .i64 kind, .int .i64 blk, .int .i64 cnt, .slice A L cp] := (h2.1.block _ hbk.lt (fun hc => by have := h.lt hc; omega)).trans hbk
    exact ⟨hk2.cell 1, hk2.cell 2⟩)
  have EL := Lib.hid eL
  have HCAP := Lib.hid hcap
  have HCA2 : Hid (∀ k, (s.ca k).length ≤ 100000000000000) := Lib.hid (fun k => by have := hcap k; omega)
  have HI1 := Lib.hid hI1
  have HI2 := Lib.hid hI2
  subst hk
  have HX := Lib.hid h2
  have b3 : ((L : Int) == s.sz) = true := by simp; omega
  rw [← eNB, ← eSZ]
  rw [← eNB] at n1 n2 h2
  rw [← eSZ] at n3 b3
  have b1 : decide (blk < 0) = false := decide_eq_false (by omega)
  have b2 : decide ((NB : Int) ≤ blk) = false := decide_eq_false (by omega)
  subst e1
  clear h hr hcap hI1 hI2 eQ eL hb1 hwf eNB eSZ HRS h3
  go_enter Try.func29, Try.ntmps29
  go_wp2_with fail
  have HF := Lib.hid (HFIN.out _ s HSAME.out rfl)
  first | exact HF.out | (go_ret; exact HF.out)
set_option maxHeartbeats 1000000 in
set_option maxRecDepth 100000 in
theorem ref_2inn (O : Nat → Prop) (w : World) (d : Nat) (s : DSt) (o : OpV) (h : DRep O w d s) (hr : RdN O w o.dv o.data) (hcap : ∀ k, ((s.ca k).length + 1) * 24 ≤ 200000000000000) (hI1 : I64 o.blk) (hI2 : I64 o.cnt) (hk : o.kind = 2) (h1 : 0 ≤ o.blk) (h2 : o.blk < s.nb) (h3 : o.data.length ≠ s.sz) :
    Calls Try.prog 29 #[.pointer (some ⟨d, 0, none⟩), o.agg, .int .i64 s.nb, .int .i64 s.sz] w (RfQ O w d (refS s o)) := by
  have hwf := h.wf
  have n1 := hwf.nb1
  have n2 := hwf.nb2
  have n3 := hwf.sz1
  obtain ⟨A, cp, edv⟩ := hr.1.slice
  obtain ⟨Q, eQ⟩ : ∃ Q, Q = RfQ O w d (refS s o) := ⟨_, rfl⟩
  rw [← eQ]
  have HRS : Hid (s = refS s o) := Lib.hid (by unfold refS; rw [if_neg (by rw [hk]; decide)])
  obtain ⟨kind, blk, cnt, dv, data⟩ := o
  dsimp only at edv hk h1 h2 h3 hI1 hI2 HRS
  subst edv
  obtain ⟨L, eL⟩ : ∃ L, L = data.length := ⟨_, rfl⟩
  simp only [OpV.agg]
  rw [← eL]
  obtain ⟨w1, e1⟩ : ∃ w1, w1 = w.alloc (.cells #[.int .i64 kind, .int .i64 blk, .int .i64 cnt, .slice A L cp] 61) := ⟨_, rfl⟩
  have hb1 : Below w.heap.size w w1 := by rw [e1]; exact (Below.refl _ _).alloc (Nat.le_refl _) _
  obtain ⟨NB, eNB⟩ : ∃ NB, NB = s.nb := ⟨_, rfl⟩
  obtain ⟨SZ, eSZ⟩ : ∃ SZ, SZ = s.sz := ⟨_, rfl⟩
  have HFIN : Hid (∀ w2 s2, DStep O w1 w2 d s2 → s2 = s → Q (.returned (.bool true)) w2) := Lib.hid (fun w2 s2 h2 e => by
    rw [eQ, ← HRS.out, ← e]; exact ⟨rfl, DStep.comp (OnlyP.ofBelow hb1) (fun b hb => .inl hb) h2⟩)
  have HSAME : Hid (DStep O w1 w1 d s) := Lib.hid ⟨OnlyP.refl _ _, O, h.below hb1, fun b hb => .inl hb⟩
  have HD1 := Lib.hid (h.below hb1)
  have HR1 : Hid (RdN O w1 (.slice A L cp) data) := Lib.hid ⟨by rw [eL]; exact hr.1.below hb1, by rw [eL]; exact hr.2⟩
  have HOP : Hid (∀ w2 s2 n, DStep O w1 w2 d s2 → (w2.drewN n).cell? ⟨w.heap.size, 1, none⟩ = some (.int .i64 blk) ∧ (w2.drewN n).cell? ⟨w.heap.size, 2, none⟩ = some (.int .i64 cnt)) := Lib.hid (fun w2 s2 n h2 => by
    have hbk : Blk w1 w.heap.size 61 #[.int .i64 kind, .int .i64 blk, .int .i64 cnt, .slice A L cp] := by rw [e1]; exact Blk.new _ _ _
    have hk2 : Blk (w2.drewN n) w.heap.size 61 #[.int .i64 kind, .int .i64 blk, .int .i64 cnt, .slice A L cp] := (h2.1.block _ hbk.lt (fun hc => by have := h.lt hc; omega)).trans hbk
    exact ⟨hk2.cell 1, hk2.cell 2⟩)
  have EL := Lib.hid eL
  have HCAP := Lib.hid hcap
  have HCA2 : Hid (∀ k, (s.ca k).length ≤ 100000000000000) := Lib.hid (fun k => by have := hcap k; omega)
  have HI1 := Lib.hid hI1
  have HI2 := Lib.hid hI2
  subst hk
  have HX := Lib.hid h2
  have HX1 := Lib.hid h1
  have HX3 := Lib.hid h3
  have b3 : ((L : Int) == s.sz) = false := by simp; omega
  rw [← eNB, ← eSZ]
  rw [← eNB] at n1 n2 h2
  rw [← eSZ] at n3 b3
  have b1 : decide (blk < 0) = false := decide_eq_false (by omega)
  have b2 : decide ((NB : Int) ≤ blk) = false := decide_eq_false (by omega)
  subst e1
  clear h hr hcap hI1 hI2 eQ eL hb1 hwf eNB eSZ HRS h3
  go_enter Try.func29, Try.ntmps29
  go_wp2_with fail
  refine (write_ok O _ d s blk _ data HD1.out HR1.out (HCAP.out _)).mono ?_
  obtain ⟨h0, h9, _⟩ := write_len (s := s) (j := blk) HX1.out HX.out data HX3.out
  rw [h0, h9]
  rintro e w2 ⟨er, rfl, her, hst⟩
  have HST := Lib.hid (hst)
  have HTR := Lib.hid (trouble_ok _ w2 er _ _ her)
  clear her HD1 HR1 HSAME
  go_wp2_with fail
  refine HTR.out.mono ?_
  rintro e w3 ⟨rfl, nn, hw3⟩
  have HF := Lib.hid (HFIN.out w3 _ (by rw [hw3]; exact HST.out.drewN nn) rfl)
  obtain ⟨c1, c2⟩ := HOP.out w2 _ nn HST.out
  rw [← hw3] at c1 c2
  clear hw3 HTR HFIN HST HOP
  (try simp only [trB_1, trB_2, trB_3])
  go_wp2_with fail
  first | exact HF.out | (go_ret; exact HF.out)
set_option maxHeartbeats 1000000 in
set_option maxRecDepth 100000 in
theorem ref_3inf (O : Nat → Prop) (w : World) (d : Nat) (s : DSt) (o : OpV) (h : DRep O w d s) (hr : RdN O w o.dv o.data) (hcap : ∀ k, ((s.ca k).length + 1) * 24 ≤ 200000000000000) (hI1 : I64 o.blk) (hI2 : I64 o.cnt) (hk : o.kind = 3) (h1 : 0 ≤ o.blk) (h2 : o.blk < s.nb) (h3 : o.data.length = s.sz) :
    Calls Try.prog 29 #[.pointer (some ⟨d, 0, none⟩), o.agg, .int .i64 s.nb, .int .i64 s.sz] w (RfQ O w d (refS s o)) := by
  have hwf := h.wf
  have n1 := hwf.nb1
  have n2 := hwf.nb2
  have n3 := hwf.sz1
  obtain ⟨A, cp, edv⟩ := hr.1.slice
  obtain ⟨Q, eQ⟩ : ∃ Q, Q = RfQ O w d (refS s o) := ⟨_, rfl⟩
  rw [← eQ]
  have HRS : Hid (s = refS s o) := Lib.hid (by unfold refS; rw [if_neg (by rw [hk]; decide)])
  obtain ⟨kind, blk, cnt, dv, data⟩ := o
  dsimp only at edv hk h1 h2 h3 hI1 hI2 HRS
  subst edv
  obtain ⟨L, eL⟩ : ∃ L, L = data.length := ⟨_, rfl⟩
  simp only [OpV.agg]
  rw [← eL]
  obtain ⟨w1, e1⟩ : ∃ w1, w1 = w.alloc (.cells #[.int .i64 kind, .int .i64 blk, .int .i64 cnt, .slice A L cp] 61) := ⟨_, rfl⟩
  have hb1 : Below w.heap.size w w1 := by rw [e1]; exact (Below.refl _ _).alloc (Nat.le_refl _) _
  obtain ⟨NB, eNB⟩ : ∃ NB, NB = s.nb := ⟨_, rfl⟩
  obtain ⟨SZ, eSZ⟩ : ∃ SZ, SZ = s.sz := ⟨_, rfl⟩
  have HFIN : Hid (∀ w2 s2, DStep O w1 w2 d s2 → s2 = s → Q (.returned (.bool true)) w2) := Lib.hid (fun w2 s2 h2 e => by
    rw [eQ, ← HRS.out, ← e]; exact ⟨rfl, DStep.comp (OnlyP.ofBelow hb1) (fun b hb => .inl hb) h2⟩)
  have HSAME : Hid (DStep O w1 w1 d s) := Lib.hid ⟨OnlyP.refl _ _, O, h.below hb1, fun b hb => .inl hb⟩
  have HD1 := Lib.hid (h.below hb1)
  have HR1 : Hid (RdN O w1 (.slice A L cp) data) := Lib.hid ⟨by rw [eL]; exact hr.1.below hb1, by rw [eL]; exact hr.2⟩
  have HOP : Hid (∀ w2 s2 n, DStep O w1 w2 d s2 → (w2.drewN n).cell? ⟨w.heap.size, 1, none⟩ = some (.int .i64 blk) ∧ (w2.drewN n).cell? ⟨w.heap.size, 2, none⟩ = some (.int .i64 cnt)) := Lib.hid (fun w2 s2 n h2 => by
    have hbk : Blk w1 w.heap.size 61 #[.int .i64 kind, .int .i64 blk, .int .i64 cnt, .slice A L cp] := by rw [e1]; exact Blk.new _ _ _
    have hk2 : Blk (w2.drewN n) w.heap.size 61 #[.int .i64 kind, .int .i64 blk, .int .i64 cnt, .slice A L cp] := (h2.1.block _ hbk.lt (fun hc => by have := h.lt hc; omega)).trans hbk
    exact ⟨hk2.cell 1, hk2.cell 2⟩)
  have EL := Lib.hid eL
  have HCAP := Lib.hid hcap
  have HCA2 : Hid (∀ k, (s.ca k).length ≤ 100000000000000) := Lib.hid (fun k => by have := hcap k; omega)
  have HI1 := Lib.hid hI1
  have HI2 := Lib.hid hI2
  subst hk
  have HX := Lib.hid h2
  have b3 : ((L : Int) == s.sz) = true := by simp; omega
  rw [← eNB, ← eSZ]
  rw [← eNB] at n1 n2 h2
  rw [← eSZ] at n3 b3
  have b1 : decide (blk < 0) = false := decide_eq_false (by omega)
  have b2 : decide ((NB : Int) ≤ blk) = false := decide_eq_false (by omega)
  subst e1
  clear h hr hcap hI1 hI2 eQ eL hb1 hwf eNB eSZ HRS h3
  go_enter Try.func29, Try.ntmps29
  go_wp2_with fail
  have HF := Lib.hid (HFIN.out _ s HSAME.out rfl)
  first | exact HF.out | (go_ret; exact HF.out)
set_option maxHeartbeats 1000000 in
set_option maxRecDepth 100000 in
theorem ref_3inn (O : Nat → Prop) (w : World) (d : Nat) (s : DSt) (o : OpV) (h : DRep O w d s) (hr : RdN O w o.dv o.data) (hcap : ∀ k, ((s.ca k).length + 1) * 24 ≤ 200000000000000) (hI1 : I64 o.blk) (hI2 : I64 o.cnt) (hk : o.kind = 3) (h1 : 0 ≤ o.blk) (h2 : o.blk < s.nb) (h3 : o.data.length ≠ s.sz) :
    Calls Try.prog 29 #[.pointer (some ⟨d, 0, none⟩), o.agg, .int .i64 s.nb, .int .i64 s.sz] w (RfQ O w d (refS s o)) := by
  have hwf := h.wf
  have n1 := hwf.nb1
  have n2 := hwf.nb2
  have n3 := hwf.sz1
  obtain ⟨A, cp, edv⟩ := hr.1.slice
  obtain ⟨Q, eQ⟩ : ∃ Q, Q = RfQ O w d (refS s o) := ⟨_, rfl⟩
  rw [← eQ]
  have HRS : Hid (s = refS s o) := Lib.hid (by unfold refS; rw [if_neg (by rw [hk]; decide)])
  obtain ⟨kind, blk, cnt, dv, data⟩ := o
  dsimp only at edv hk h1 h2 h3 hI1 hI2 HRS
  subst edv
  obtain ⟨L, eL⟩ : ∃ L, L = data.length := ⟨_, rfl⟩
  simp only [OpV.agg]
  rw [← eL]
  obtain ⟨w1, e1⟩ : ∃ w1, w1 = w.alloc (.cells #[.int .i64 kind, .int .i64 blk, .int .i64 cnt, .slice A L cp] 61) := ⟨_, rfl⟩
  have hb1 : Below w.heap.size w w1 := by rw [e1]; exact (Below.refl _ _).alloc (Nat.le_refl _) _
  obtain ⟨NB, eNB⟩ : ∃ NB, NB = s.nb := ⟨_, rfl⟩
  obtain ⟨SZ, eSZ⟩ : ∃ SZ, SZ = s.sz := ⟨_, rfl⟩
  have HFIN : Hid (∀ w2 s2, DStep O w1 w2 d s2 → s2 = s → Q (.returned (.bool true)) w2) := Lib.hid (fun w2 s2 h2 e => by
    rw [eQ, ← HRS.out, ← e]; exact ⟨rfl, DStep.comp (OnlyP.ofBelow hb1) (fun b hb => .inl hb) h2⟩)
  have HSAME : Hid (DStep O w1 w1 d s) := Lib.hid ⟨OnlyP.refl _ _, O, h.below hb1, fun b hb => .inl hb⟩
  have HD1 := Lib.hid (h.below hb1)
  have HR1 : Hid (RdN O w1 (.slice A L cp) data) := Lib.hid ⟨by rw [eL]; exact hr.1.below hb1, by rw [eL]; exact hr.2⟩
  have HOP : Hid (∀ w2 s2 n, DStep O w1 w2 d s2 → (w2.drewN n).cell? ⟨w.heap.size, 1, none⟩ = some (.int .i64 blk) ∧ (w2.drewN n).cell? ⟨w.heap.size, 2, none⟩ = some (.int .i64 cnt)) := Lib.hid (fun w2 s2 n h2 => by
    have hbk : Blk w1 w.heap.size 61 #[.int .i64 kind, .int .i64 blk, .int .i64 cnt, .slice A L cp] := by rw [e1]; exact Blk.new _ _ _
    have hk2 : Blk (w2.drewN n) w.heap.size 61 #[.int .i64 kind, .int .i64 blk, .int .i64 cnt, .slice A L cp] := (h2.1.block _ hbk.lt (fun hc => by have := h.lt hc; omega)).trans hbk
    exact ⟨hk2.cell 1, hk2.cell 2⟩)
  have EL := Lib.hid eL
  have HCAP := Lib.hid hcap
  have HCA2 : Hid (∀ k, (s.ca k).length ≤ 100000000000000) := Lib.hid (fun k => by have := hcap k; omega)
  have HI1 := Lib.hid hI1
  have HI2 := Lib.hid hI2
  subst hk
  have HX := Lib.hid h2
  have HX1 := Lib.hid h1
  have HX3 := Lib.hid h3
  have b3 : ((L : Int) == s.sz) = false := by simp; omega
  rw [← eNB, ← eSZ]
  rw [← eNB] at n1 n2 h2
  rw [← eSZ] at n3 b3
  have b1 : decide (blk < 0) = false := decide_eq_false (by omega)
  have b2 : decide ((NB : Int) ≤ blk) = false := decide_eq_false (by omega)
  subst e1
  clear h hr hcap hI1 hI2 eQ eL hb1 hwf eNB eSZ HRS h3
  go_enter Try.func29, Try.ntmps29
  go_wp2_with fail
  refine (through_ok O _ d s blk _ data HD1.out HR1.out).mono ?_
  obtain ⟨h0, _, h9⟩ := write_len (s := s) (j := blk) HX1.out HX.out data HX3.out
  rw [h0, h9]
  rintro e w2 ⟨er, rfl, her, hst⟩
  have HST := Lib.hid (hst)
  have HTR := Lib.hid (trouble_ok _ w2 er _ _ her)
  clear her HD1 HR1 HSAME
  go_wp2_with fail
  refine HTR.out.mono ?_
  rintro e w3 ⟨rfl, nn, hw3⟩
  have HF := Lib.hid (HFIN.out w3 _ (by rw [hw3]; exact HST.out.drewN nn) rfl)
  obtain ⟨c1, c2⟩ := HOP.out w2 _ nn HST.out
  rw [← hw3] at c1 c2
  clear hw3 HTR HFIN HST HOP
  (try simp only [trB_1, trB_2, trB_3])
  go_wp2_with fail
  first | exact HF.out | (go_ret; exact HF.out)
set_option maxHeartbeats 1000000 in
set_option maxRecDepth 100000 in
theorem ref_1lo (O : Nat → Prop) (w : World) (d : Nat) (s : DSt) (o : OpV) (h : DRep O w d s) (hr : RdN O w o.dv o.data) (hcap : ∀ k, ((s.ca k).length + 1) * 24 ≤ 200000000000000) (hI1 : I64 o.blk) (hI2 : I64 o.cnt) (hk : o.kind = 1) (h1 : o.blk < 0) :
    Calls Try.prog 29 #[.pointer (some ⟨d, 0, none⟩), o.agg, .int .i64 s.nb, .int .i64 s.sz] w (RfQ O w d (refS s o)) := by
  have hwf := h.wf
  have n1 := hwf.nb1
  have n2 := hwf.nb2
  have n3 := hwf.sz1
  obtain ⟨A, cp, edv⟩ := hr.1.slice
  obtain ⟨Q, eQ⟩ : ∃ Q, Q = RfQ O w d (refS s o) := ⟨_, rfl⟩
  rw [← eQ]
  have HRS : Hid (readS s o.blk = refS s o) := Lib.hid (by unfold refS; rw [if_pos hk])
  obtain ⟨kind, blk, cnt, dv, data⟩ := o
  dsimp only at edv hk h1 hI1 hI2 HRS
  subst edv
  obtain ⟨L, eL⟩ : ∃ L, L = data.length := ⟨_, rfl⟩
  simp only [OpV.agg]
  rw [← eL]
  obtain ⟨w1, e1⟩ : ∃ w1, w1 = w.alloc (.cells #[.int .i64 kind, .int .i64 blk, .int .i64 cnt, .slice A L cp] 61) := ⟨_, rfl⟩
  have hb1 : Below w.heap.size w w1 := by rw [e1]; exact (Below.refl _ _).alloc (Nat.le_refl _) _
  obtain ⟨NB, eNB⟩ : ∃ NB, NB = s.nb := ⟨_, rfl⟩
  obtain ⟨SZ, eSZ⟩ : ∃ SZ, SZ = s.sz := ⟨_, rfl⟩
  have HFIN : Hid (∀ w2 s2, DStep O w1 w2 d s2 → s2 = readS s blk → Q (.returned (.bool true)) w2) := Lib.hid (fun w2 s2 h2 e => by
    rw [eQ, ← HRS.out, ← e]; exact ⟨rfl, DStep.comp (OnlyP.ofBelow hb1) (fun b hb => .inl hb) h2⟩)
  have HSAME : Hid (DStep O w1 w1 d s) := Lib.hid ⟨OnlyP.refl _ _, O, h.below hb1, fun b hb => .inl hb⟩
  have HD1 := Lib.hid (h.below hb1)
  have HR1 : Hid (RdN O w1 (.slice A L cp) data) := Lib.hid ⟨by rw [eL]; exact hr.1.below hb1, by rw [eL]; exact hr.2⟩
  have HOP : Hid (∀ w2 s2 n, DStep O w1 w2 d s2 → (w2.drewN n).cell? ⟨w.heap.size, 1, none⟩ = some (.int .i64 blk) ∧ (w2.drewN n).cell? ⟨w.heap.size, 2, none⟩ = some (.int .i64 cnt)) := Lib.hid (fun w2 s2 n h2 => by
    have hbk : Blk w1 w.heap.size 61 #[.int .i64 kind, .int .i64 blk, .int .i64 cnt, .slice A L cp] := by rw [e1]; exact Blk.new _ _ _
    have hk2 : Blk (w2.drewN n) w.heap.size 61 #[.int .i64 kind, .int .i64 blk, .int .i64 cnt, .slice A L cp] := (h2.1.block _ hbk.lt (fun hc => by have := h.lt hc; omega)).trans hbk
    exact ⟨hk2.cell 1, hk2.cell 2⟩)
  have EL := Lib.hid eL
  have HCAP := Lib.hid hcap
  have HCA2 : Hid (∀ k, (s.ca k).length ≤ 100000000000000) := Lib.hid (fun k => by have := hcap k; omega)
  have HI1 := Lib.hid hI1
  have HI2 := Lib.hid hI2
  subst hk
  have HX := Lib.hid h1
  rw [← eNB, ← eSZ]
  rw [← eNB] at n1 n2 
  rw [← eSZ] at n3 
  have b1 : decide (blk < 0) = true := decide_eq_true (by omega)
  subst e1
  clear h hr hcap hI1 hI2 eQ eL hb1 hwf eNB eSZ HRS 
  go_enter Try.func29, Try.ntmps29
  go_wp2_with fail
  refine (read_ok O _ d s blk HD1.out (HCA2.out _)).mono ?_
  rintro e w2 ⟨v, er, rfl, _, her, hon, hdr⟩
  have h0 : readE s blk = 2 := readE_out (.inl HX.out)
  rw [h0] at her
  have HST := Lib.hid (show DStep O _ w2 d (readS s blk) from ⟨hon, O, hdr, fun b hb => .inl hb⟩)
  have HTR := Lib.hid (trouble_ok _ w2 er _ _ her)
  clear her HD1 HR1 HSAME
  go_wp2_with fail
  refine HTR.out.mono ?_
  rintro e w3 ⟨rfl, nn, hw3⟩
  have HF := Lib.hid (HFIN.out w3 _ (by rw [hw3]; exact HST.out.drewN nn) rfl)
  obtain ⟨c1, c2⟩ := HOP.out w2 _ nn HST.out
  rw [← hw3] at c1 c2
  clear hw3 HTR HFIN HST HOP
  (try simp only [trB_1, trB_2, trB_3])
  go_wp2_with fail
  first | exact HF.out | (go_ret; exact HF.out)
set_option maxHeartbeats 1000000 in
set_option maxRecDepth 100000 in
theorem ref_8lo (O : Nat → Prop) (w : World) (d : Nat) (s : DSt) (o : OpV) (h : DRep O w d s) (hr : RdN O w o.dv o.data) (hcap : ∀ k, ((s.ca k).length + 1) * 24 ≤ 200000000000000) (hI1 : I64 o.blk) (hI2 : I64 o.cnt) (hk : o.kind = 8) (h1 : o.blk < 0) :
    Calls Try.prog 29 #[.pointer (some ⟨d, 0, none⟩), o.agg, .int .i64 s.nb, .int .i64 s.sz] w (RfQ O w d (refS s o)) := by
  have hwf := h.wf
  have n1 := hwf.nb1
  have n2 := hwf.nb2
  have n3 := hwf.sz1
  obtain ⟨A, cp, edv⟩ := hr.1.slice
  obtain ⟨Q, eQ⟩ : ∃ Q, Q = RfQ O w d (refS s o) := ⟨_, rfl⟩
  rw [← eQ]
  have HRS : Hid (s = refS s o) := Lib.hid (by unfold refS; rw [if_neg (by rw [hk]; decide)])
  obtain ⟨kind, blk, cnt, dv, data⟩ := o
  dsimp only at edv hk h1 hI1 hI2 HRS
  subst edv
  obtain ⟨L, eL⟩ : ∃ L, L = data.length := ⟨_, rfl⟩
  simp only [OpV.agg]
  rw [← eL]
  obtain ⟨w1, e1⟩ : ∃ w1, w1 = w.alloc (.cells #[.int .i64 kind, .int .i64 blk, .int .i64 cnt, .slice A L cp] 61) := ⟨_, rfl⟩
  have hb1 : Below w.heap.size w w1 := by rw [e1]; exact (Below.refl _ _).alloc (Nat.le_refl _) _
  obtain ⟨NB, eNB⟩ : ∃ NB, NB = s.nb := ⟨_, rfl⟩
  obtain ⟨SZ, eSZ⟩ : ∃ SZ, SZ = s.sz := ⟨_, rfl⟩
  have HFIN : Hid (∀ w2 s2, DStep O w1 w2 d s2 → s2 = s → Q (.returned (.bool true)) w2) := Lib.hid (fun w2 s2 h2 e => by
    rw [eQ, ← HRS.out, ← e]; exact ⟨rfl, DStep.comp (OnlyP.ofBelow hb1) (fun b hb => .inl hb) h2⟩)
  have HSAME : Hid (DStep O w1 w1 d s) := Lib.hid ⟨OnlyP.refl _ _, O, h.below hb1, fun b hb => .inl hb⟩
  have HD1 := Lib.hid (h.below hb1)
  have HR1 : Hid (RdN O w1 (.slice A L cp) data) := Lib.hid ⟨by rw [eL]; exact hr.1.below hb1, by rw [eL]; exact hr.2⟩
  have HOP : Hid (∀ w2 s2 n, DStep O w1 w2 d s2 → (w2.drewN n).cell? ⟨w.heap.size, 1, none⟩ = some (.int .i64 blk) ∧ (w2.drewN n).cell? ⟨w.heap.size, 2, none⟩ = some (.int .i64 cnt)) := Lib.hid (fun w2 s2 n h2 => by
    have hbk : Blk w1 w.heap.size 61 #[.int .i64 kind, .int .i64 blk, .int .i64 cnt, .slice A L cp] := by rw [e1]; exact Blk.new _ _ _
    have hk2 : Blk (w2.drewN n) w.heap.size 61 #[.int .i64 kind, .int .i64 blk, .int .i64 cnt, .slice A L cp] := (h2.1.block _ hbk.lt (fun hc => by have := h.lt hc; omega)).trans hbk
    exact ⟨hk2.cell 1, hk2.cell 2⟩)
  have EL := Lib.hid eL
  have HCAP := Lib.hid hcap
  have HCA2 : Hid (∀ k, (s.ca k).length ≤ 100000000000000) := Lib.hid (fun k => by have := hcap k; omega)
  have HI1 := Lib.hid hI1
  have HI2 := Lib.hid hI2
  subst hk
  have HX := Lib.hid h1
  rw [← eNB, ← eSZ]
  rw [← eNB] at n1 n2 
  rw [← eSZ] at n3 
  have b1 : decide (blk < 0) = true := decide_eq_true (by omega)
  subst e1
  clear h hr hcap hI1 hI2 eQ eL hb1 hwf eNB eSZ HRS 
  go_enter Try.func29, Try.ntmps29
  go_wp2_with fail
  refine (durable_ok O _ d s blk HD1.out).mono ?_
  rintro e w2 ⟨v, er, rfl, _, her, hon, hdr⟩
  have h0 : durE s blk = 2 := durE_out (.inl HX.out)
  rw [h0] at her
  have HST := Lib.hid (show DStep O _ w2 d s from ⟨hon, O, hdr, fun b hb => .inl hb⟩)
  have HTR := Lib.hid (trouble_ok _ w2 er _ _ her)
  clear her HD1 HR1 HSAME
  go_wp2_with fail
  refine HTR.out.mono ?_
  rintro e w3 ⟨rfl, nn, hw3⟩
  have HF := Lib.hid (HFIN.out w3 _ (by rw [hw3]; exact HST.out.drewN nn) rfl)
  obtain ⟨c1, c2⟩ := HOP.out w2 _ nn HST.out
  rw [← hw3] at c1 c2
  clear hw3 HTR HFIN HST HOP
  (try simp only [trB_1, trB_2, trB_3])
  go_wp2_with fail
  first | exact HF.out | (go_ret; exact HF.out)
set_option maxHeartbeats 1000000 in
set_option maxRecDepth 100000 in
theorem ref_10lo (O : Nat → Prop) (w : World) (d : Nat) (s : DSt) (o : OpV) (h : DRep O w d s) (hr : RdN O w o.dv o.data) (hcap : ∀ k, ((s.ca k).length + 1) * 24 ≤ 200000000000000) (hI1 : I64 o.blk) (hI2 : I64 o.cnt) (hk : o.kind = 10) (h1 : o.blk < 0) :
    Calls Try.prog 29 #[.pointer (some ⟨d, 0, none⟩), o.agg, .int .i64 s.nb, .int .i64 s.sz] w (RfQ O w d (refS s o)) := by
  have hwf := h.wf
  have n1 := hwf.nb1
  have n2 := hwf.nb2
  have n3 := hwf.sz1
  obtain ⟨A, cp, edv⟩ := hr.1.slice
  obtain ⟨Q, eQ⟩ : ∃ Q, Q = RfQ O w d (refS s o) := ⟨_, rfl⟩
  rw [← eQ]
  have HRS : Hid (s = refS s o) := Lib.hid (by unfold refS; rw [if_neg (by rw [hk]; decide)])
  obtain ⟨kind, blk, cnt, dv, data⟩ := o
  dsimp only at edv hk h1 hI1 hI2 HRS
  subst edv
  obtain ⟨L, eL⟩ : ∃ L, L = data.length := ⟨_, rfl⟩
  simp only [OpV.agg]
  rw [← eL]
  obtain ⟨w1, e1⟩ : ∃ w1, w1 = w.alloc (.cells #[.int .i64 kind, .int .i64 blk, .int .i64 cnt, .slice A L cp] 61) := ⟨_, rfl⟩
  have hb1 : Below w.heap.size w w1 := by rw [e1]; exact (Below.refl _ _).alloc (Nat.le_refl _) _
  obtain ⟨NB, eNB⟩ : ∃ NB, NB = s.nb := ⟨_, rfl⟩
  obtain ⟨SZ, eSZ⟩ : ∃ SZ, SZ = s.sz := ⟨_, rfl⟩
  have HFIN : Hid (∀ w2 s2, DStep O w1 w2 d s2 → s2 = s → Q (.returned (.bool true)) w2) := Lib.hid (fun w2 s2 h2 e => by
    rw [eQ, ← HRS.out, ← e]; exact ⟨rfl, DStep.comp (OnlyP.ofBelow hb1) (fun b hb => .inl hb) h2⟩)
  have HSAME : Hid (DStep O w1 w1 d s) := Lib.hid ⟨OnlyP.refl _ _, O, h.below hb1, fun b hb => .inl hb⟩
  have HD1 := Lib.hid (h.below hb1)
  have HR1 : Hid (RdN O w1 (.slice A L cp) data) := Lib.hid ⟨by rw [eL]; exact hr.1.below hb1, by rw [eL]; exact hr.2⟩
  have HOP : Hid (∀ w2 s2 n, DStep O w1 w2 d s2 → (w2.drewN n).cell? ⟨w.heap.size, 1, none⟩ = some (.int .i64 blk) ∧ (w2.drewN n).cell? ⟨w.heap.size, 2, none⟩ = some (.int .i64 cnt)) := Lib.hid (fun w2 s2 n h2 => by
    have hbk : Blk w1 w.heap.size 61 #[.int .i64 kind, .int .i64 blk, .int .i64 cnt, .slice A L cp] := by rw [e1]; exact Blk.new _ _ _
    have hk2 : Blk (w2.drewN n) w.heap.size 61 #[.int .i64 kind, .int .i64 blk, .int .i64 cnt, .slice A L cp] := (h2.1.block _ hbk.lt (fun hc => by have := h.lt hc; omega)).trans hbk
    exact ⟨hk2.cell 1, hk2.cell 2⟩)
  have EL := Lib.hid eL
  have HCAP := Lib.hid hcap
  have HCA2 : Hid (∀ k, (s.ca k).length ≤ 100000000000000) := Lib.hid (fun k => by have := hcap k; omega)
  have HI1 := Lib.hid hI1
  have HI2 := Lib.hid hI2
  subst hk
  have HX := Lib.hid h1
  rw [← eNB, ← eSZ]
  rw [← eNB] at n1 n2 
  rw [← eSZ] at n3 
  have b1 : decide (blk < 0) = true := decide_eq_true (by omega)
  subst e1
  clear h hr hcap hI1 hI2 eQ eL hb1 hwf eNB eSZ HRS 
  go_enter Try.func29, Try.ntmps29
  go_wp2_with fail
  refine (spoil_ok O _ d s blk HD1.out).mono ?_
  obtain ⟨h0, h9⟩ := spoil_out (s := s) (j := blk) (.inl HX.out)
  rw [h0, h9]
  rintro e w2 ⟨er, rfl, her, hst⟩
  have HST := Lib.hid (hst)
  have HTR := Lib.hid (trouble_ok _ w2 er _ _ her)
  clear her HD1 HR1 HSAME
  go_wp2_with fail
  refine HTR.out.mono ?_
  rintro e w3 ⟨rfl, nn, hw3⟩
  have HF := Lib.hid (HFIN.out w3 _ (by rw [hw3]; exact HST.out.drewN nn) rfl)
  obtain ⟨c1, c2⟩ := HOP.out w2 _ nn HST.out
  rw [← hw3] at c1 c2
  clear hw3 HTR HFIN HST HOP
  (try simp only [trB_1, trB_2, trB_3])
  go_wp2_with fail
  first | exact HF.out | (go_ret; exact HF.out)
set_option maxHeartbeats 1000000 in
set_option maxRecDepth 100000 in
theorem ref_2lo (O : Nat → Prop) (w : World) (d : Nat) (s : DSt) (o : OpV) (h : DRep O w d s) (hr : RdN O w o.dv o.data) (hcap : ∀ k, ((s.ca k).length + 1) * 24 ≤ 200000000000000) (hI1 : I64 o.blk) (hI2 : I64 o.cnt) (hk : o.kind = 2) (h1 : o.blk < 0) :
    Calls Try.prog 29 #[.pointer (some ⟨d, 0, none⟩), o.agg, .int .i64 s.nb, .int .i64 s.sz] w (RfQ O w d (refS s o)) := by
  have hwf := h.wf
  have n1 := hwf.nb1
  have n2 := hwf.nb2
  have n3 := hwf.sz1
  obtain ⟨A, cp, edv⟩ := hr.1.slice
  obtain ⟨Q, eQ⟩ : ∃ Q, Q = RfQ O w d (refS s o) := ⟨_, rfl⟩
  rw [← eQ]
  have HRS : Hid (s = refS s o) := Lib.hid (by unfold refS; rw [if_neg (by rw [hk]; decide)])
  obtain ⟨kind, blk, cnt, dv, data⟩ := o
  dsimp only at edv hk h1 hI1 hI2 HRS
  subst edv
  obtain ⟨L, eL⟩ : ∃ L, L = data.length := ⟨_, rfl⟩
  simp only [OpV.agg]
  rw [← eL]
  obtain ⟨w1, e1⟩ : ∃ w1, w1 = w.alloc (.cells #[.int .i64 kind, .int .i64 blk, .int .i64 cnt, .slice A L cp] 61) := ⟨_, rfl⟩
  have hb1 : Below w.heap.size w w1 := by rw [e1]; exact (Below.refl _ _).alloc (Nat.le_refl _) _
  obtain ⟨NB, eNB⟩ : ∃ NB, NB = s.nb := ⟨_, rfl⟩
  obtain ⟨SZ, eSZ⟩ : ∃ SZ, SZ = s.sz := ⟨_, rfl⟩
  have HFIN : Hid (∀ w2 s2, DStep O w1 w2 d s2 → s2 = s → Q (.returned (.bool true)) w2) := Lib.hid (fun w2 s2 h2 e => by
    rw [eQ, ← HRS.out, ← e]; exact ⟨rfl, DStep.comp (OnlyP.ofBelow hb1) (fun b hb => .inl hb) h2⟩)
  have HSAME : Hid (DStep O w1 w1 d s) := Lib.hid ⟨OnlyP.refl _ _, O, h.below hb1, fun b hb => .inl hb⟩
  have HD1 := Lib.hid (h.below hb1)
  have HR1 : Hid (RdN O w1 (.slice A L cp) data) := Lib.hid ⟨by rw [eL]; exact hr.1.below hb1, by rw [eL]; exact hr.2⟩
  have HOP : Hid (∀ w2 s2 n, DStep O w1 w2 d s2 → (w2.drewN n).cell? ⟨w.heap.size, 1, none⟩ = some (.int .i64 blk) ∧ (w2.drewN n).cell? ⟨w.heap.size, 2, none⟩ = some (.int .i64 cnt)) := Lib.hid (fun w2 s2 n h2 => by
    have hbk : Blk w1 w.heap.size 61 #[.int .i64 kind, .int .i64 blk, .int .i64 cnt, .slice A L cp] := by rw [e1]; exact Blk.new _ _ _
    have hk2 : Blk (w2.drewN n) w.heap.size 61 #[.int .i64 kind, .int .i64 blk, .int .i64 cnt, .slice A L cp] := (h2.1.block _ hbk.lt (fun hc => by have := h.lt hc; omega)).trans hbk
    exact ⟨hk2.cell 1, hk2.cell 2⟩)
  have EL := Lib.hid eL
  have HCAP := Lib.hid hcap
  have HCA2 : Hid (∀ k, (s.ca k).length ≤ 100000000000000) := Lib.hid (fun k => by have := hcap k; omega)
  have HI1 := Lib.hid hI1
  have HI2 := Lib.hid hI2
  subst hk
  have HX := Lib.hid h1
  rw [← eNB, ← eSZ]
  rw [← eNB] at n1 n2 
  rw [← eSZ] at n3 
  have b1 : decide (blk < 0) = true := decide_eq_true (by omega)
  subst e1
  clear h hr hcap hI1 hI2 eQ eL hb1 hwf eNB eSZ HRS 
  go_enter Try.func29, Try.ntmps29
  go_wp2_with fail
  refine (write_ok O _ d s blk _ data HD1.out HR1.out (HCAP.out _)).mono ?_
  obtain ⟨h0, h9, _⟩ := write_out (s := s) (j := blk) (.inl HX.out) data
  rw [h0, h9]
  rintro e w2 ⟨er, rfl, her, hst⟩
  have HST := Lib.hid (hst)
  have HTR := Lib.hid (trouble_ok _ w2 er _ _ her)
  clear her HD1 HR1 HSAME
  go_wp2_with fail
  refine HTR.out.mono ?_
  rintro e w3 ⟨rfl, nn, hw3⟩
  have HF := Lib.hid (HFIN.out w3 _ (by rw [hw3]; exact HST.out.drewN nn) rfl)
  obtain ⟨c1, c2⟩ := HOP.out w2 _ nn HST.out
  rw [← hw3] at c1 c2
  clear hw3 HTR HFIN HST HOP
  (try simp only [trB_1, trB_2, trB_3])
  go_wp2_with fail
  first | exact HF.out | (go_ret; exact HF.out)
set_option maxHeartbeats 1000000 in
set_option maxRecDepth 100000 in
theorem ref_3lo (O : Nat → Prop) (w : World) (d : Nat) (s : DSt) (o : OpV) (h : DRep O w d s) (hr : RdN O w o.dv o.data) (hcap : ∀ k, ((s.ca k).length + 1) * 24 ≤ 200000000000000) (hI1 : I64 o.blk) (hI2 : I64 o.cnt) (hk : o.kind = 3) (h1 : o.blk < 0) :
    Calls Try.prog 29 #[.pointer (some ⟨d, 0, none⟩), o.agg, .int .i64 s.nb, .int .i64 s.sz] w (RfQ O w d (refS s o)) := by
  have hwf := h.wf
  have n1 := hwf.nb1
  have n2 := hwf.nb2
  have n3 := hwf.sz1
  obtain ⟨A, cp, edv⟩ := hr.1.slice
  obtain ⟨Q, eQ⟩ : ∃ Q, Q = RfQ O w d (refS s o) := ⟨_, rfl⟩
  rw [← eQ]
  have HRS : Hid (s = refS s o) := Lib.hid (by unfold refS; rw [if_neg (by rw [hk]; decide)])
  obtain ⟨kind, blk, cnt, dv, data⟩ := o
  dsimp only at edv hk h1 hI1 hI2 HRS
  subst edv
  obtain ⟨L, eL⟩ : ∃ L, L = data.length := ⟨_, rfl⟩
  simp only [OpV.agg]
  rw [← eL]
  obtain ⟨w1, e1⟩ : ∃ w1, w1 = w.alloc (.cells #[.int .i64 kind, .int .i64 blk, .int .i64 cnt, .slice A L cp] 61) := ⟨_, rfl⟩
  have hb1 : Below w.heap.size w w1 := by rw [e1]; exact (Below.refl _ _).alloc (Nat.le_refl _) _
  obtain ⟨NB, eNB⟩ : ∃ NB, NB = s.nb := ⟨_, rfl⟩
  obtain ⟨SZ, eSZ⟩ : ∃ SZ, SZ = s.sz := ⟨_, rfl⟩
  have HFIN : Hid (∀ w2 s2, DStep O w1 w2 d s2 → s2 = s → Q (.returned (.bool true)) w2) := Lib.hid (fun w2 s2 h2 e => by
    rw [eQ, ← HRS.out, ← e]; exact ⟨rfl, DStep.comp (OnlyP.ofBelow hb1) (fun b hb => .inl hb) h2⟩)
  have HSAME : Hid (DStep O w1 w1 d s) := Lib.hid ⟨OnlyP.refl _ _, O, h.below hb1, fun b hb => .inl hb⟩
  have HD1 := Lib.hid (h.below hb1)
  have HR1 : Hid (RdN O w1 (.slice A L cp) data) := Lib.hid ⟨by rw [eL]; exact hr.1.below hb1, by rw [eL]; exact hr.2⟩
  have HOP : Hid (∀ w2 s2 n, DStep O w1 w2 d s2 → (w2.drewN n).cell? ⟨w.heap.size, 1, none⟩ = some (.int .i64 blk) ∧ (w2.drewN n).cell? ⟨w.heap.size, 2, none⟩ = some (.int .i64 cnt)) := Lib.hid (fun w2 s2 n h2 => by
    have hbk : Blk w1 w.heap.size 61 #[.int .i64 kind, .int .i64 blk, .int .i64 cnt, .slice A L cp] := by rw [e1]; exact Blk.new _ _ _
    have hk2 : Blk (w2.drewN n) w.heap.size 61 #[.int .i64 kind, .int .i64 blk, .int .i64 cnt, .slice A L cp] := (h2.1.block _ hbk.lt (fun hc => by have := h.lt hc; omega)).trans hbk
    exact ⟨hk2.cell 1, hk2.cell 2⟩)
  have EL := Lib.hid eL
  have HCAP := Lib.hid hcap
  have HCA2 : Hid (∀ k, (s.ca k).length ≤ 100000000000000) := Lib.hid (fun k => by have := hcap k; omega)
  have HI1 := Lib.hid hI1
  have HI2 := Lib.hid hI2
  subst hk
  have HX := Lib.hid h1
  rw [← eNB, ← eSZ]
  rw [← eNB] at n1 n2 
  rw [← eSZ] at n3 
  have b1 : decide (blk < 0) = true := decide_eq_true (by omega)
  subst e1
  clear h hr hcap hI1 hI2 eQ eL hb1 hwf eNB eSZ HRS 
  go_enter Try.func29, Try.ntmps29
  go_wp2_with fail
  refine (through_ok O _ d s blk _ data HD1.out HR1.out).mono ?_
  obtain ⟨h0, _, h9⟩ := write_out (s := s) (j := blk) (.inl HX.out) data
  rw [h0, h9]
  rintro e w2 ⟨er, rfl, her, hst⟩
  have HST := Lib.hid (hst)
  have HTR := Lib.hid (trouble_ok _ w2 er _ _ her)
  clear her HD1 HR1 HSAME
  go_wp2_with fail
  refine HTR.out.mono ?_
  rintro e w3 ⟨rfl, nn, hw3⟩
  have HF := Lib.hid (HFIN.out w3 _ (by rw [hw3]; exact HST.out.drewN nn) rfl)
  obtain ⟨c1, c2⟩ := HOP.out w2 _ nn HST.out
  rw [← hw3] at c1 c2
  clear hw3 HTR HFIN HST HOP
  (try simp only [trB_1, trB_2, trB_3])
  go_wp2_with fail
  first | exact HF.out | (go_ret; exact HF.out)
set_option maxHeartbeats 1000000 in
set_option maxRecDepth 100000 in
theorem ref_1hi (O : Nat → Prop) (w : World) (d : Nat) (s : DSt) (o : OpV) (h : DRep O w d s) (hr : RdN O w o.dv o.data) (hcap : ∀ k, ((s.ca k).length + 1) * 24 ≤ 200000000000000) (hI1 : I64 o.blk) (hI2 : I64 o.cnt) (hk : o.kind = 1) (h1 : 0 ≤ o.blk) (h2 : (s.nb : Int) ≤ o.blk) :
    Calls Try.prog 29 #[.pointer (some ⟨d, 0, none⟩), o.agg, .int .i64 s.nb, .int .i64 s.sz] w (RfQ O w d (refS s o)) := by
  have hwf := h.wf
  have n1 := hwf.nb1
  have n2 := hwf.nb2
  have n3 := hwf.sz1
  obtain ⟨A, cp, edv⟩ := hr.1.slice
  obtain ⟨Q, eQ⟩ : ∃ Q, Q = RfQ O w d (refS s o) := ⟨_, rfl⟩
  rw [← eQ]
  have HRS : Hid (readS s o.blk = refS s o) := Lib.hid (by unfold refS; rw [if_pos hk])
  obtain ⟨kind, blk, cnt, dv, data⟩ := o
  dsimp only at edv hk h1 h2 hI1 hI2 HRS
  subst edv
  obtain ⟨L, eL⟩ : ∃ L, L = data.length := ⟨_, rfl⟩
  simp only [OpV.agg]
  rw [← eL]
  obtain ⟨w1, e1⟩ : ∃ w1, w1 = w.alloc (.cells #[.int .i64 kind, .int .i64 blk, .int .i64 cnt, .slice A L cp] 61) := ⟨_, rfl⟩
  have hb1 : Below w.heap.size w w1 := by rw [e1]; exact (Below.refl _ _).alloc (Nat.le_refl _) _
  obtain ⟨NB, eNB⟩ : ∃ NB, NB = s.nb := ⟨_, rfl⟩
  obtain ⟨SZ, eSZ⟩ : ∃ SZ, SZ = s.sz := ⟨_, rfl⟩
  have HFIN : Hid (∀ w2 s2, DStep O w1 w2 d s2 → s2 = readS s blk → Q (.returned (.bool true)) w2) := Lib.hid (fun w2 s2 h2 e => by
    rw [eQ, ← HRS.out, ← e]; exact ⟨rfl, DStep.comp (OnlyP.ofBelow hb1) (fun b hb => .inl hb) h2⟩)
  have HSAME : Hid (DStep O w1 w1 d s) := Lib.hid ⟨OnlyP.refl _ _, O, h.below hb1, fun b hb => .inl hb⟩
  have HD1 := Lib.hid (h.below hb1)
  have HR1 : Hid (RdN O w1 (.slice A L cp) data) := Lib.hid ⟨by rw [eL]; exact hr.1.below hb1, by rw [eL]; exact hr.2⟩
  have HOP : Hid (∀ w2 s2 n, DStep O w1 w2 d s2 → (w2.drewN n).cell? ⟨w.heap.size, 1, none⟩ = some (.int .i64 blk) ∧ (w2.drewN n).cell? ⟨w.heap.size, 2, none⟩ = some (.int .i64 cnt)) := Lib.hid (fun w2 s2 n h2 => by
    have hbk : Blk w1 w.heap.size 61 #[.int .i64 kind, .int .i64 blk, .int .i64 cnt, .slice A L cp] := by rw [e1]; exact Blk.new _ _ _
    have hk2 : Blk (w2.drewN n) w.heap.size 61 #[.int .i64 kind, .int .i64 blk, .int .i64 cnt, .slice A L cp] := (h2.1.block _ hbk.lt (fun hc => by have := h.lt hc; omega)).trans hbk
    exact ⟨hk2.cell 1, hk2.cell 2⟩)
  have EL := Lib.hid eL
  have HCAP := Lib.hid hcap
  have HCA2 : Hid (∀ k, (s.ca k).length ≤ 100000000000000) := Lib.hid (fun k => by have := hcap k; omega)
  have HI1 := Lib.hid hI1
  have HI2 := Lib.hid hI2
  subst hk
  have HX := Lib.hid h2
  rw [← eNB, ← eSZ]
  rw [← eNB] at n1 n2 h2
  rw [← eSZ] at n3 
  have b1 : decide (blk < 0) = false := decide_eq_false (by omega)
  have b2 : decide ((NB : Int) ≤ blk) = true := decide_eq_true (by omega)
  subst e1
  clear h hr hcap hI1 hI2 eQ eL hb1 hwf eNB eSZ HRS 
  go_enter Try.func29, Try.ntmps29
  go_wp2_with fail
  refine (read_ok O _ d s blk HD1.out (HCA2.out _)).mono ?_
  rintro e w2 ⟨v, er, rfl, _, her, hon, hdr⟩
  have h0 : readE s blk = 2 := readE_out (.inr HX.out)
  rw [h0] at her
  have HST := Lib.hid (show DStep O _ w2 d (readS s blk) from ⟨hon, O, hdr, fun b hb => .inl hb⟩)
  have HTR := Lib.hid (trouble_ok _ w2 er _ _ her)
  clear her HD1 HR1 HSAME
  go_wp2_with fail
  refine HTR.out.mono ?_
  rintro e w3 ⟨rfl, nn, hw3⟩
  have HF := Lib.hid (HFIN.out w3 _ (by rw [hw3]; exact HST.out.drewN nn) rfl)
  obtain ⟨c1, c2⟩ := HOP.out w2 _ nn HST.out
  rw [← hw3] at c1 c2
  clear hw3 HTR HFIN HST HOP
  (try simp only [trB_1, trB_2, trB_3])
  go_wp2_with fail
  first | exact HF.out | (go_ret; exact HF.out)
set_option maxHeartbeats 1000000 in
set_option maxRecDepth 100000 in
theorem ref_8hi (O : Nat → Prop) (w : World) (d : Nat) (s : DSt) (o : OpV) (h : DRep O w d s) (hr : RdN O w o.dv o.data) (hcap : ∀ k, ((s.ca k).length + 1) * 24 ≤ 200000000000000) (hI1 : I64 o.blk) (hI2 : I64 o.cnt) (hk : o.kind = 8) (h1 : 0 ≤ o.blk) (h2 : (s.nb : Int) ≤ o.blk) :
    Calls Try.prog 29 #[.pointer (some ⟨d, 0, none⟩), o.agg, .int .i64 s.nb, .int .i64 s.sz] w (RfQ O w d (refS s o)) := by
  have hwf := h.wf
  have n1 := hwf.nb1
  have n2 := hwf.nb2
  have n3 := hwf.sz1
  obtain ⟨A, cp, edv⟩ := hr.1.slice
  obtain ⟨Q, eQ⟩ : ∃ Q, Q = RfQ O w d (refS s o) := ⟨_, rfl⟩
  rw [← eQ]
  have HRS : Hid (s = refS s o) := Lib.hid (by unfold refS; rw [if_neg (by rw [hk]; decide)])
  obtain ⟨kind, blk, cnt, dv, data⟩ := o
  dsimp only at edv hk h1 h2 hI1 hI2 HRS
  subst edv
  obtain ⟨L, eL⟩ : ∃ L, L = data.length := ⟨_, rfl⟩
  simp only [OpV.agg]
  rw [← eL]
  obtain ⟨w1, e1⟩ : ∃ w1, w1 = w.alloc (.cells #[.int .i64 kind, .int .i64 blk, .int .i64 cnt, .slice A L cp] 61) := ⟨_, rfl⟩
  have hb1 : Below w.heap.size w w1 := by rw [e1]; exact (Below.refl _ _).alloc (Nat.le_refl _) _
  obtain ⟨NB, eNB⟩ : ∃ NB, NB = s.nb := ⟨_, rfl⟩
  obtain ⟨SZ, eSZ⟩ : ∃ SZ, SZ = s.sz := ⟨_, rfl⟩
  have HFIN : Hid (∀ w2 s2, DStep O w1 w2 d s2 → s2 = s → Q (.returned (.bool true)) w2) := Lib.hid (fun w2 s2 h2 e => by
    rw [eQ, ← HRS.out, ← e]; exact ⟨rfl, DStep.comp (OnlyP.ofBelow hb1) (fun b hb => .inl hb) h2⟩)
  have HSAME : Hid (DStep O w1 w1 d s) := Lib.hid ⟨OnlyP.refl _ _, O, h.below hb1, fun b hb => .inl hb⟩
  have HD1 := Lib.hid (h.below hb1)
  have HR1 : Hid (RdN O w1 (.slice A L cp) data) := Lib.hid ⟨by rw [eL]; exact hr.1.below hb1, by rw [eL]; exact hr.2⟩
  have HOP : Hid (∀ w2 s2 n, DStep O w1 w2 d s2 → (w2.drewN n).cell? ⟨w.heap.size, 1, none⟩ = some (.int .i64 blk) ∧ (w2.drewN n).cell? ⟨w.heap.size, 2, none⟩ = some (.int .i64 cnt)) := Lib.hid (fun w2 s2 n h2 => by
    have hbk : Blk w1 w.heap.size 61 #[.int .i64 kind, .int .i64 blk, .int .i64 cnt, .slice A L cp] := by rw [e1]; exact Blk.new _ _ _
    have hk2 : Blk (w2.drewN n) w.heap.size 61 #[.int .i64 kind, .int .i64 blk, .int .i64 cnt, .slice A L cp] := (h2.1.block _ hbk.lt (fun hc => by have := h.lt hc; omega)).trans hbk
    exact ⟨hk2.cell 1, hk2.cell 2⟩)
  have EL := Lib.hid eL
  have HCAP := Lib.hid hcap
  have HCA2 : Hid (∀ k, (s.ca k).length ≤ 100000000000000) := Lib.hid (fun k => by have := hcap k; omega)
  have HI1 := Lib.hid hI1
  have HI2 := Lib.hid hI2
  subst hk
  have HX := Lib.hid h2
  rw [← eNB, ← eSZ]
  rw [← eNB] at n1 n2 h2
  rw [← eSZ] at n3 
  have b1 : decide (blk < 0) = false := decide_eq_false (by omega)
  have b2 : decide ((NB : Int) ≤ blk) = true := decide_eq_true (by omega)
  subst e1
  clear h hr hcap hI1 hI2 eQ eL hb1 hwf eNB eSZ HRS 
  go_enter Try.func29, Try.ntmps29
  go_wp2_with fail
  refine (durable_ok O _ d s blk HD1.out).mono ?_
  rintro e w2 ⟨v, er, rfl, _, her, hon, hdr⟩
  have h0 : durE s blk = 2 := durE_out (.inr HX.out)
  rw [h0] at her
  have HST := Lib.hid (show DStep O _ w2 d s from ⟨hon, O, hdr, fun b hb => .inl hb⟩)
  have HTR := Lib.hid (trouble_ok _ w2 er _ _ her)
  clear her HD1 HR1 HSAME
  go_wp2_with fail
  refine HTR.out.mono ?_
  rintro e w3 ⟨rfl, nn, hw3⟩
  have HF := Lib.hid (HFIN.out w3 _ (by rw [hw3]; exact HST.out.drewN nn) rfl)
  obtain ⟨c1, c2⟩ := HOP.out w2 _ nn HST.out
  rw [← hw3] at c1 c2
  clear hw3 HTR HFIN HST HOP
  (try simp only [trB_1, trB_2, trB_3])
  go_wp2_with fail
  first | exact HF.out | (go_ret; exact HF.out)
set_option maxHeartbeats 1000000 in
set_option maxRecDepth 100000 in
theorem ref_10hi (O : Nat → Prop) (w : World) (d : Nat) (s : DSt) (o : OpV) (h : DRep O w d s) (hr : RdN O w o.dv o.data) (hcap : ∀ k, ((s.ca k).length + 1) * 24 ≤ 200000000000000) (hI1 : I64 o.blk) (hI2 : I64 o.cnt) (hk : o.kind = 10) (h1 : 0 ≤ o.blk) (h2 : (s.nb : Int) ≤ o.blk) :
    Calls Try.prog 29 #[.pointer (some ⟨d, 0, none⟩), o.agg, .int .i64 s.nb, .int .i64 s.sz] w (RfQ O w d (refS s o)) := by
  have hwf := h.wf
  have n1 := hwf.nb1
  have n2 := hwf.nb2
  have n3 := hwf.sz1
  obtain ⟨A, cp, edv⟩ := hr.1.slice
  obtain ⟨Q, eQ⟩ : ∃ Q, Q = RfQ O w d (refS s o) := ⟨_, rfl⟩
  rw [← eQ]
  have HRS : Hid (s = refS s o) := Lib.hid (by unfold refS; rw [if_neg (by rw [hk]; decide)])
  obtain ⟨kind, blk, cnt, dv, data⟩ := o
  dsimp only at edv hk h1 h2 hI1 hI2 HRS
  subst edv
  obtain ⟨L, eL⟩ : ∃ L, L = data.length := ⟨_, rfl⟩
  simp only [OpV.agg]
  rw [← eL]
  obtain ⟨w1, e1⟩ : ∃ w1, w1 = w.alloc (.cells #[.int .i64 kind, .int .i64 blk, .int .i64 cnt, .slice A L cp] 61) := ⟨_, rfl⟩
  have hb1 : Below w.heap.size w w1 := by rw [e1]; exact (Below.refl _ _).alloc (Nat.le_refl _) _
  obtain ⟨NB, eNB⟩ : ∃ NB, NB = s.nb := ⟨_, rfl⟩
  obtain ⟨SZ, eSZ⟩ : ∃ SZ, SZ = s.sz := ⟨_, rfl⟩
  have HFIN : Hid (∀ w2 s2, DStep O w1 w2 d s2 → s2 = s → Q (.returned (.bool true)) w2) := Lib.hid (fun w2 s2 h2 e => by
    rw [eQ, ← HRS.out, ← e]; exact ⟨rfl, DStep.comp (OnlyP.ofBelow hb1) (fun b hb => .inl hb) h2⟩)
  have HSAME : Hid (DStep O w1 w1 d s) := Lib.hid ⟨OnlyP.refl _ _, O, h.below hb1, fun b hb => .inl hb⟩
  have HD1 := Lib.hid (h.below hb1)
  have HR1 : Hid (RdN O w1 (.slice A L cp) data) := Lib.hid ⟨by rw [eL]; exact hr.1.below hb1, by rw [eL]; exact hr.2⟩
  have HOP : Hid (∀ w2 s2 n, DStep O w1 w2 d s2 → (w2.drewN n).cell? ⟨w.heap.size, 1, none⟩ = some (.int .i64 blk) ∧ (w2.drewN n).cell? ⟨w.heap.size, 2, none⟩ = some (.int .i64 cnt)) := Lib.hid (fun w2 s2 n h2 => by
    have hbk : Blk w1 w.heap.size 61 #[.int .i64 kind, .int .i64 blk, .int .i64 cnt, .slice A L cp] := by rw [e1]; exact Blk.new _ _ _
    have hk2 : Blk (w2.drewN n) w.heap.size 61 #[.int .i64 kind, .int .i64 blk, .int .i64 cnt, .slice A L cp] := (h2.1.block _ hbk.lt (fun hc => by have := h.lt hc; omega)).trans hbk
    exact ⟨hk2.cell 1, hk2.cell 2⟩)
  have EL := Lib.hid eL
  have HCAP := Lib.hid hcap
  have HCA2 : Hid (∀ k, (s.ca k).length ≤ 100000000000000) := Lib.hid (fun k => by have := hcap k; omega)
  have HI1 := Lib.hid hI1
  have HI2 := Lib.hid hI2
  subst hk
  have HX := Lib.hid h2
  rw [← eNB, ← eSZ]
  rw [← eNB] at n1 n2 h2
  rw [← eSZ] at n3 
  have b1 : decide (blk < 0) = false := decide_eq_false (by omega)
  have b2 : decide ((NB : Int) ≤ blk) = true := decide_eq_true (by omega)
  subst e1
  clear h hr hcap hI1 hI2 eQ eL hb1 hwf eNB eSZ HRS 
  go_enter Try.func29, Try.ntmps29
  go_wp2_with fail
  refine (spoil_ok O _ d s blk HD1.out).mono ?_
  obtain ⟨h0, h9⟩ := spoil_out (s := s) (j := blk) (.inr HX.out)
  rw [h0, h9]
  rintro e w2 ⟨er, rfl, her, hst⟩
  have HST := Lib.hid (hst)
  have HTR := Lib.hid (trouble_ok _ w2 er _ _ her)
  clear her HD1 HR1 HSAME
  go_wp2_with fail
  refine HTR.out.mono ?_
  rintro e w3 ⟨rfl, nn, hw3⟩
  have HF := Lib.hid (HFIN.out w3 _ (by rw [hw3]; exact HST.out.drewN nn) rfl)
  obtain ⟨c1, c2⟩ := HOP.out w2 _ nn HST.out
  rw [← hw3] at c1 c2
  clear hw3 HTR HFIN HST HOP
  (try simp only [trB_1, trB_2, trB_3])
  go_wp2_with fail
  first | exact HF.out | (go_ret; exact HF.out)
set_option maxHeartbeats 1000000 in
set_option maxRecDepth 100000 in
theorem ref_2hi (O : Nat → Prop) (w : World) (d : Nat) (s : DSt) (o : OpV) (h : DRep O w d s) (hr : RdN O w o.dv o.data) (hcap : ∀ k, ((s.ca k).length + 1) * 24 ≤ 200000000000000) (hI1 : I64 o.blk) (hI2 : I64 o.cnt) (hk : o.kind = 2) (h1 : 0 ≤ o.blk) (h2 : (s.nb : Int) ≤ o.blk) :
    Calls Try.prog 29 #[.pointer (some ⟨d, 0, none⟩), o.agg, .int .i64 s.nb, .int .i64 s.sz] w (RfQ O w d (refS s o)) := by
  have hwf := h.wf
  have n1 := hwf.nb1
  have n2 := hwf.nb2
  have n3 := hwf.sz1
  obtain ⟨A, cp, edv⟩ := hr.1.slice
  obtain ⟨Q, eQ⟩ : ∃ Q, Q = RfQ O w d (refS s o) := ⟨_, rfl⟩
  rw [← eQ]
  have HRS : Hid (s = refS s o) := Lib.hid (by unfold refS; rw [if_neg (by rw [hk]; decide)])
  obtain ⟨kind, blk, cnt, dv, data⟩ := o
  dsimp only at edv hk h1 h2 hI1 hI2 HRS
  subst edv
  obtain ⟨L, eL⟩ : ∃ L, L = data.length := ⟨_, rfl⟩
  simp only [OpV.agg]
  rw [← eL]
  obtain ⟨w1, e1⟩ : ∃ w1, w1 = w.alloc (.cells #[.int .i64 kind, .int .i64 blk, .int .i64 cnt, .slice A L cp] 61) := ⟨_, rfl⟩
  have hb1 : Below w.heap.size w w1 := by rw [e1]; exact (Below.refl _ _).alloc (Nat.le_refl _) _
  obtain ⟨NB, eNB⟩ : ∃ NB, NB = s.nb := ⟨_, rfl⟩
  obtain ⟨SZ, eSZ⟩ : ∃ SZ, SZ = s.sz := ⟨_, rfl⟩
  have HFIN : Hid (∀ w2 s2, DStep O w1 w2 d s2 → s2 = s → Q (.returned (.bool true)) w2) := Lib.hid (fun w2 s2 h2 e => by
    rw [eQ, ← HRS.out, ← e]; exact ⟨rfl, DStep.comp (OnlyP.ofBelow hb1) (fun b hb => .inl hb) h2⟩)
  have HSAME : Hid (DStep O w1 w1 d s) := Lib.hid ⟨OnlyP.refl _ _, O, h.below hb1, fun b hb => .inl hb⟩
  have HD1 := Lib.hid (h.below hb1)
  have HR1 : Hid (RdN O w1 (.slice A L cp) data) := Lib.hid ⟨by rw [eL]; exact hr.1.below hb1, by rw [eL]; exact hr.2⟩
  have HOP : Hid (∀ w2 s2 n, DStep O w1 w2 d s2 → (w2.drewN n).cell? ⟨w.heap.size, 1, none⟩ = some (.int .i64 blk) ∧ (w2.drewN n).cell? ⟨w.heap.size, 2, none⟩ = some (.int .i64 cnt)) := Lib.hid (fun w2 s2 n h2 => by
    have hbk : Blk w1 w.heap.size 61 #[.int .i64 kind, .int .i64 blk, .int .i64 cnt, .slice A L cp] := by rw [e1]; exact Blk.new _ _ _
    have hk2 : Blk (w2.drewN n) w.heap.size 61 #[.int .i64 kind, .int .i64 blk, .int .i64 cnt, .slice A L cp] := (h2.1.block _ hbk.lt (fun hc => by have := h.lt hc; omega)).trans hbk
    exact ⟨hk2.cell 1, hk2.cell 2⟩)
  have EL := Lib.hid eL
  have HCAP := Lib.hid hcap
  have HCA2 : Hid (∀ k, (s.ca k).length ≤ 100000000000000) := Lib.hid (fun k => by have := hcap k; omega)
  have HI1 := Lib.hid hI1
  have HI2 := Lib.hid hI2
  subst hk
  have HX := Lib.hid h2
  rw [← eNB, ← eSZ]
  rw [← eNB] at n1 n2 h2
  rw [← eSZ] at n3 
  have b1 : decide (blk < 0) = false := decide_eq_false (by omega)
  have b2 : decide ((NB : Int) ≤ blk) = true := decide_eq_true (by omega)
  subst e1
  clear h hr hcap hI1 hI2 eQ eL hb1 hwf eNB eSZ HRS 
  go_enter Try.func29, Try.ntmps29
  go_wp2_with fail
  refine (write_ok O _ d s blk _ data HD1.out HR1.out (HCAP.out _)).mono ?_
  obtain ⟨h0, h9, _⟩ := write_out (s := s) (j := blk) (.inr HX.out) data
  rw [h0, h9]
  rintro e w2 ⟨er, rfl, her, hst⟩
  have HST := Lib.hid (hst)
  have HTR := Lib.hid (trouble_ok _ w2 er _ _ her)
  clear her HD1 HR1 HSAME
  go_wp2_with fail
  refine HTR.out.mono ?_
  rintro e w3 ⟨rfl, nn, hw3⟩
  have HF := Lib.hid (HFIN.out w3 _ (by rw [hw3]; exact HST.out.drewN nn) rfl)
  obtain ⟨c1, c2⟩ := HOP.out w2 _ nn HST.out
  rw [← hw3] at c1 c2
  clear hw3 HTR HFIN HST HOP
  (try simp only [trB_1, trB_2, trB_3])
  go_wp2_with fail
  first | exact HF.out | (go_ret; exact HF.out)
set_option maxHeartbeats 1000000 in
set_option maxRecDepth 100000 in
theorem ref_3hi (O : Nat → Prop) (w : World) (d : Nat) (s : DSt) (o : OpV) (h : DRep O w d s) (hr : RdN O w o.dv o.data) (hcap : ∀ k, ((s.ca k).length + 1) * 24 ≤ 200000000000000) (hI1 : I64 o.blk) (hI2 : I64 o.cnt) (hk : o.kind = 3) (h1 : 0 ≤ o.blk) (h2 : (s.nb : Int) ≤ o.blk) :
    Calls Try.prog 29 #[.pointer (some ⟨d, 0, none⟩), o.agg, .int .i64 s.nb, .int .i64 s.sz] w (RfQ O w d (refS s o)) := by
  have hwf := h.wf
  have n1 := hwf.nb1
  have n2 := hwf.nb2
  have n3 := hwf.sz1
  obtain ⟨A, cp, edv⟩ := hr.1.slice
  obtain ⟨Q, eQ⟩ : ∃ Q, Q = RfQ O w d (refS s o) := ⟨_, rfl⟩
  rw [← eQ]
  have HRS : Hid (s = refS s o) := Lib.hid (by unfold refS; rw [if_neg (by rw [hk]; decide)])
  obtain ⟨kind, blk, cnt, dv, data⟩ := o
  dsimp only at edv hk h1 h2 hI1 hI2 HRS
  subst edv
  obtain ⟨L, eL⟩ : ∃ L, L = data.length := ⟨_, rfl⟩
  simp only [OpV.agg]
  rw [← eL]
  obtain ⟨w1, e1⟩ : ∃ w1, w1 = w.alloc (.cells #[.int .i64 kind, .int .i64 blk, .int .i64 cnt, .slice A L cp] 61) := ⟨_, rfl⟩
  have hb1 : Below w.heap.size w w1 := by rw [e1]; exact (Below.refl _ _).alloc (Nat.le_refl _) _
  obtain ⟨NB, eNB⟩ : ∃ NB, NB = s.nb := ⟨_, rfl⟩
  obtain ⟨SZ, eSZ⟩ : ∃ SZ, SZ = s.sz := ⟨_, rfl⟩
  have HFIN : Hid (∀ w2 s2, DStep O w1 w2 d s2 → s2 = s → Q (.returned (.bool true)) w2) := Lib.hid (fun w2 s2 h2 e => by
    rw [eQ, ← HRS.out, ← e]; exact ⟨rfl, DStep.comp (OnlyP.ofBelow hb1) (fun b hb => .inl hb) h2⟩)
  have HSAME : Hid (DStep O w1 w1 d s) := Lib.hid ⟨OnlyP.refl _ _, O, h.below hb1, fun b hb => .inl hb⟩
  have HD1 := Lib.hid (h.below hb1)
  have HR1 : Hid (RdN O w1 (.slice A L cp) data) := Lib.hid ⟨by rw [eL]; exact hr.1.below hb1, by rw [eL]; exact hr.2⟩
  have HOP : Hid (∀ w2 s2 n, DStep O w1 w2 d s2 → (w2.drewN n).cell? ⟨w.heap.size, 1, none⟩ = some (.int .i64 blk) ∧ (w2.drewN n).cell? ⟨w.heap.size, 2, none⟩ = some (.int .i64 cnt)) := Lib.hid (fun w2 s2 n h2 => by
    have hbk : Blk w1 w.heap.size 61 #[.int .i64 kind, .int .i64 blk, .int .i64 cnt, .slice A L cp] := by rw [e1]; exact Blk.new _ _ _
    have hk2 : Blk (w2.drewN n) w.heap.size 61 #[.int .i64 kind, .int .i64 blk, .int .i64 cnt, .slice A L cp] := (h2.1.block _ hbk.lt (fun hc => by have := h.lt hc; omega)).trans hbk
    exact ⟨hk2.cell 1, hk2.cell 2⟩)
  have EL := Lib.hid eL
  have HCAP := Lib.hid hcap
  have HCA2 : Hid (∀ k, (s.ca k).length ≤ 100000000000000) := Lib.hid (fun k => by have := hcap k; omega)
  have HI1 := Lib.hid hI1
  have HI2 := Lib.hid hI2
  subst hk
  have HX := Lib.hid h2
  rw [← eNB, ← eSZ]
  rw [← eNB] at n1 n2 h2
  rw [← eSZ] at n3 
  have b1 : decide (blk < 0) = false := decide_eq_false (by omega)
  have b2 : decide ((NB : Int) ≤ blk) = true := decide_eq_true (by omega)
  subst e1
  clear h hr hcap hI1 hI2 eQ eL hb1 hwf eNB eSZ HRS 
  go_enter Try.func29, Try.ntmps29
  go_wp2_with fail
  refine (through_ok O _ d s blk _ data HD1.out HR1.out).mono ?_
  obtain ⟨h0, _, h9⟩ := write_out (s := s) (j := blk) (.inr HX.out) data
  rw [h0, h9]
  rintro e w2 ⟨er, rfl, her, hst⟩
  have HST := Lib.hid (hst)
  have HTR := Lib.hid (trouble_ok _ w2 er _ _ her)
  clear her HD1 HR1 HSAME
  go_wp2_with fail
  refine HTR.out.mono ?_
  rintro e w3 ⟨rfl, nn, hw3⟩
  have HF := Lib.hid (HFIN.out w3 _ (by rw [hw3]; exact HST.out.drewN nn) rfl)
  obtain ⟨c1, c2⟩ := HOP.out w2 _ nn HST.out
  rw [← hw3] at c1 c2
  clear hw3 HTR HFIN HST HOP
  (try simp only [trB_1, trB_2, trB_3])
  go_wp2_with fail
  first | exact HF.out | (go_ret; exact HF.out)
set_option maxHeartbeats 1000000 in
set_option maxRecDepth 100000 in
theorem ref_4f (O : Nat → Prop) (w : World) (d : Nat) (s : DSt) (o : OpV) (h : DRep O w d s) (hr : RdN O w o.dv o.data) (hcap : ∀ k, ((s.ca k).length + 1) * 24 ≤ 200000000000000) (hI1 : I64 o.blk) (hI2 : I64 o.cnt) (hk : o.kind = 4) (h1 : 0 ≤ o.blk) (h2 : o.blk ≤ s.nb) (h3 : 0 ≤ o.cnt) (h4 : o.cnt ≤ s.nb - o.blk) :
    Calls Try.prog 29 #[.pointer (some ⟨d, 0, none⟩), o.agg, .int .i64 s.nb, .int .i64 s.sz] w (RfQ O w d (refS s o)) := by
  have hwf := h.wf
  have n1 := hwf.nb1
  have n2 := hwf.nb2
  have n3 := hwf.sz1
  obtain ⟨A, cp, edv⟩ := hr.1.slice
  obtain ⟨Q, eQ⟩ : ∃ Q, Q = RfQ O w d (refS s o) := ⟨_, rfl⟩
  rw [← eQ]
  have HRS : Hid (s = refS s o) := Lib.hid (by unfold refS; rw [if_neg (by rw [hk]; decide)])
  obtain ⟨kind, blk, cnt, dv, data⟩ := o
  dsimp only at edv hk h1 h2 h3 h4 hI1 hI2 HRS
  subst edv
  obtain ⟨L, eL⟩ : ∃ L, L = data.length := ⟨_, rfl⟩
  simp only [OpV.agg]
  rw [← eL]
  obtain ⟨w1, e1⟩ : ∃ w1, w1 = w.alloc (.cells #[.int .i64 kind, .int .i64 blk, .int .i64 cnt, .slice A L cp] 61) := ⟨_, rfl⟩
  have hb1 : Below w.heap.size w w1 := by rw [e1]; exact (Below.refl _ _).alloc (Nat.le_refl _) _
  obtain ⟨NB, eNB⟩ : ∃ NB, NB = s.nb := ⟨_, rfl⟩
  obtain ⟨SZ, eSZ⟩ : ∃ SZ, SZ = s.sz := ⟨_, rfl⟩
  have HFIN : Hid (∀ w2 s2, DStep O w1 w2 d s2 → s2 = s → Q (.returned (.bool true)) w2) := Lib.hid (fun w2 s2 h2 e => by
    rw [eQ, ← HRS.out, ← e]; exact ⟨rfl, DStep.comp (OnlyP.ofBelow hb1) (fun b hb => .inl hb) h2⟩)
  have HSAME : Hid (DStep O w1 w1 d s) := Lib.hid ⟨OnlyP.refl _ _, O, h.below hb1, fun b hb => .inl hb⟩
  have HD1 := Lib.hid (h.below hb1)
  have HR1 : Hid (RdN O w1 (.slice A L cp) data) := Lib.hid ⟨by rw [eL]; exact hr.1.below hb1, by rw [eL]; exact hr.2⟩
  have HOP : Hid (∀ w2 s2 n, DStep O w1 w2 d s2 → (w2.drewN n).cell? ⟨w.heap.size, 1, none⟩ = some (.int .i64 blk) ∧ (w2.drewN n).cell? ⟨w.heap.size, 2, none⟩ = some (.int .i64 cnt)) := Lib.hid (fun w2 s2 n h2 => by
    have hbk : Blk w1 w.heap.size 61 #[.int .i64 kind, .int .i64 blk, .int .i64 cnt, .slice A L cp] := by rw [e1]; exact Blk.new _ _ _
    have hk2 : Blk (w2.drewN n) w.heap.size 61 #[.int .i64 kind, .int .i64 blk, .int .i64 cnt, .slice A L cp] := (h2.1.block _ hbk.lt (fun hc => by have := h.lt hc; omega)).trans hbk
    exact ⟨hk2.cell 1, hk2.cell 2⟩)
  have EL := Lib.hid eL
  have HCAP := Lib.hid hcap
  have HCA2 : Hid (∀ k, (s.ca k).length ≤ 100000000000000) := Lib.hid (fun k => by have := hcap k; omega)
  have HI1 := Lib.hid hI1
  have HI2 := Lib.hid hI2
  subst hk

  rw [← eNB, ← eSZ]
  rw [← eNB] at n1 n2 h2 h4
  rw [← eSZ] at n3 
  have b1 : decide (blk < 0) = false := decide_eq_false (by omega)
  have c0 : decide ((0 : Int) ≤ cnt) = true := decide_eq_true (by omega)
  have c1 : decide ((0 : Int) ≤ blk) = true := decide_eq_true (by omega)
  have c2 : decide (blk ≤ (NB : Int)) = true := decide_eq_true (by omega)
  have m1 : IntKind.i64.wrap ((NB : Int) - blk) = (NB : Int) - blk := IntWalk.i64_in _ (by omega)
  have c3 : decide (cnt ≤ (NB : Int) - blk) = true := decide_eq_true (by omega)
  subst e1
  clear h hr hcap hI1 hI2 eQ eL hb1 hwf eNB eSZ HRS 
  go_enter Try.func29, Try.ntmps29
  go_wp2_with fail
  have HF := Lib.hid (HFIN.out _ s HSAME.out rfl)
  first | exact HF.out | (go_ret; exact HF.out)
set_option maxHeartbeats 1000000 in
set_option maxRecDepth 100000 in
theorem ref_4ca (O : Nat → Prop) (w : World) (d : Nat) (s : DSt) (o : OpV) (h : DRep O w d s) (hr : RdN O w o.dv o.data) (hcap : ∀ k, ((s.ca k).length + 1) * 24 ≤ 200000000000000) (hI1 : I64 o.blk) (hI2 : I64 o.cnt) (hk : o.kind = 4) (h1 : o.cnt < 0) (h2 : o.blk < 0) :
    Calls Try.prog 29 #[.pointer (some ⟨d, 0, none⟩), o.agg, .int .i64 s.nb, .int .i64 s.sz] w (RfQ O w d (refS s o)) := by
  have hwf := h.wf
  have n1 := hwf.nb1
  have n2 := hwf.nb2
  have n3 := hwf.sz1
  obtain ⟨A, cp, edv⟩ := hr.1.slice
  obtain ⟨Q, eQ⟩ : ∃ Q, Q = RfQ O w d (refS s o) := ⟨_, rfl⟩
  rw [← eQ]
  have HRS : Hid (s = refS s o) := Lib.hid (by unfold refS; rw [if_neg (by rw [hk]; decide)])
  obtain ⟨kind, blk, cnt, dv, data⟩ := o
  dsimp only at edv hk h1 h2 hI1 hI2 HRS
  subst edv
  obtain ⟨L, eL⟩ : ∃ L, L = data.length := ⟨_, rfl⟩
  simp only [OpV.agg]
  rw [← eL]
  obtain ⟨w1, e1⟩ : ∃ w1, w1 = w.alloc (.cells #[.int .i64 kind, .int .i64 blk, .int .i64 cnt, .slice A L cp] 61) := ⟨_, rfl⟩
  have hb1 : Below w.heap.size w w1 := by rw [e1]; exact (Below.refl _ _).alloc (Nat.le_refl _) _
  obtain ⟨NB, eNB⟩ : ∃ NB, NB = s.nb := ⟨_, rfl⟩
  obtain ⟨SZ, eSZ⟩ : ∃ SZ, SZ = s.sz := ⟨_, rfl⟩
  have HFIN : Hid (∀ w2 s2, DStep O w1 w2 d s2 → s2 = s → Q (.returned (.bool true)) w2) := Lib.hid (fun w2 s2 h2 e => by
    rw [eQ, ← HRS.out, ← e]; exact ⟨rfl, DStep.comp (OnlyP.ofBelow hb1) (fun b hb => .inl hb) h2⟩)
  have HSAME : Hid (DStep O w1 w1 d s) := Lib.hid ⟨OnlyP.refl _ _, O, h.below hb1, fun b hb => .inl hb⟩
  have HD1 := Lib.hid (h.below hb1)
  have HR1 : Hid (RdN O w1 (.slice A L cp) data) := Lib.hid ⟨by rw [eL]; exact hr.1.below hb1, by rw [eL]; exact hr.2⟩
  have HOP : Hid (∀ w2 s2 n, DStep O w1 w2 d s2 → (w2.drewN n).cell? ⟨w.heap.size, 1, none⟩ = some (.int .i64 blk) ∧ (w2.drewN n).cell? ⟨w.heap.size, 2, none⟩ = some (.int .i64 cnt)) := Lib.hid (fun w2 s2 n h2 => by
    have hbk : Blk w1 w.heap.size 61 #[.int .i64 kind, .int .i64 blk, .int .i64 cnt, .slice A L cp] := by rw [e1]; exact Blk.new _ _ _
    have hk2 : Blk (w2.drewN n) w.heap.size 61 #[.int .i64 kind, .int .i64 blk, .int .i64 cnt, .slice A L cp] := (h2.1.block _ hbk.lt (fun hc => by have := h.lt hc; omega)).trans hbk
    exact ⟨hk2.cell 1, hk2.cell 2⟩)
  have EL := Lib.hid eL
  have HCAP := Lib.hid hcap
  have HCA2 : Hid (∀ k, (s.ca k).length ≤ 100000000000000) := Lib.hid (fun k => by have := hcap k; omega)
  have HI1 := Lib.hid hI1
  have HI2 := Lib.hid hI2
  subst hk
  have HX := Lib.hid h1
  rw [← eNB, ← eSZ]
  rw [← eNB] at n1 n2 
  rw [← eSZ] at n3 
  have b1 : decide (blk < 0) = true := decide_eq_true (by omega)
  have c0 : decide ((0 : Int) ≤ cnt) = false := decide_eq_false (by omega)
  have c9 : decide (cnt < 0) = true := decide_eq_true (by omega)
  subst e1
  clear h hr hcap hI1 hI2 eQ eL hb1 hwf eNB eSZ HRS 
  go_enter Try.func29, Try.ntmps29
  go_wp2_with fail
  refine (zero_ok O _ d s blk cnt HI1.out HD1.out HCAP.out).mono ?_
  rw [zero_bad1 HX.out]
  rintro e w2 ⟨er, rfl, her, hst⟩
  dsimp only at her hst
  have HST := Lib.hid (hst)
  have HTR := Lib.hid (trouble_ok _ w2 er _ _ her)
  clear her HD1 HR1 HSAME
  go_wp2_with fail
  refine HTR.out.mono ?_
  rintro e w3 ⟨rfl, nn, hw3⟩
  have HF := Lib.hid (HFIN.out w3 _ (by rw [hw3]; exact HST.out.drewN nn) rfl)
  obtain ⟨c1, c2⟩ := HOP.out w2 _ nn HST.out
  rw [← hw3] at c1 c2
  clear hw3 HTR HFIN HST HOP
  (try simp only [trB_1, trB_2, trB_3])
  go_wp2_with fail
  first | exact HF.out | (go_ret; exact HF.out)
set_option maxHeartbeats 1000000 in
set_option maxRecDepth 100000 in
theorem ref_4cb (O : Nat → Prop) (w : World) (d : Nat) (s : DSt) (o : OpV) (h : DRep O w d s) (hr : RdN O w o.dv o.data) (hcap : ∀ k, ((s.ca k).length + 1) * 24 ≤ 200000000000000) (hI1 : I64 o.blk) (hI2 : I64 o.cnt) (hk : o.kind = 4) (h1 : o.cnt < 0) (h2 : 0 ≤ o.blk) :
    Calls Try.prog 29 #[.pointer (some ⟨d, 0, none⟩), o.agg, .int .i64 s.nb, .int .i64 s.sz] w (RfQ O w d (refS s o)) := by
  have hwf := h.wf
  have n1 := hwf.nb1
  have n2 := hwf.nb2
  have n3 := hwf.sz1
  obtain ⟨A, cp, edv⟩ := hr.1.slice
  obtain ⟨Q, eQ⟩ : ∃ Q, Q = RfQ O w d (refS s o) := ⟨_, rfl⟩
  rw [← eQ]
  have HRS : Hid (s = refS s o) := Lib.hid (by unfold refS; rw [if_neg (by rw [hk]; decide)])
  obtain ⟨kind, blk, cnt, dv, data⟩ := o
  dsimp only at edv hk h1 h2 hI1 hI2 HRS
  subst edv
  obtain ⟨L, eL⟩ : ∃ L, L = data.length := ⟨_, rfl⟩
  simp only [OpV.agg]
  rw [← eL]
  obtain ⟨w1, e1⟩ : ∃ w1, w1 = w.alloc (.cells #[.int .i64 kind, .int .i64 blk, .int .i64 cnt, .slice A L cp] 61) := ⟨_, rfl⟩
  have hb1 : Below w.heap.size w w1 := by rw [e1]; exact (Below.refl _ _).alloc (Nat.le_refl _) _
  obtain ⟨NB, eNB⟩ : ∃ NB, NB = s.nb := ⟨_, rfl⟩
  obtain ⟨SZ, eSZ⟩ : ∃ SZ, SZ = s.sz := ⟨_, rfl⟩
  have HFIN : Hid (∀ w2 s2, DStep O w1 w2 d s2 → s2 = s → Q (.returned (.bool true)) w2) := Lib.hid (fun w2 s2 h2 e => by
    rw [eQ, ← HRS.out, ← e]; exact ⟨rfl, DStep.comp (OnlyP.ofBelow hb1) (fun b hb => .inl hb) h2⟩)
  have HSAME : Hid (DStep O w1 w1 d s) := Lib.hid ⟨OnlyP.refl _ _, O, h.below hb1, fun b hb => .inl hb⟩
  have HD1 := Lib.hid (h.below hb1)
  have HR1 : Hid (RdN O w1 (.slice A L cp) data) := Lib.hid ⟨by rw [eL]; exact hr.1.below hb1, by rw [eL]; exact hr.2⟩
  have HOP : Hid (∀ w2 s2 n, DStep O w1 w2 d s2 → (w2.drewN n).cell? ⟨w.heap.size, 1, none⟩ = some (.int .i64 blk) ∧ (w2.drewN n).cell? ⟨w.heap.size, 2, none⟩ = some (.int .i64 cnt)) := Lib.hid (fun w2 s2 n h2 => by
    have hbk : Blk w1 w.heap.size 61 #[.int .i64 kind, .int .i64 blk, .int .i64 cnt, .slice A L cp] := by rw [e1]; exact Blk.new _ _ _
    have hk2 : Blk (w2.drewN n) w.heap.size 61 #[.int .i64 kind, .int .i64 blk, .int .i64 cnt, .slice A L cp] := (h2.1.block _ hbk.lt (fun hc => by have := h.lt hc; omega)).trans hbk
    exact ⟨hk2.cell 1, hk2.cell 2⟩)
  have EL := Lib.hid eL
  have HCAP := Lib.hid hcap
  have HCA2 : Hid (∀ k, (s.ca k).length ≤ 100000000000000) := Lib.hid (fun k => by have := hcap k; omega)
  have HI1 := Lib.hid hI1
  have HI2 := Lib.hid hI2
  subst hk
  have HX := Lib.hid h1
  rw [← eNB, ← eSZ]
  rw [← eNB] at n1 n2 
  rw [← eSZ] at n3 
  have b1 : decide (blk < 0) = false := decide_eq_false (by omega)
  have c0 : decide ((0 : Int) ≤ cnt) = false := decide_eq_false (by omega)
  have c9 : decide (cnt < 0) = true := decide_eq_true (by omega)
  subst e1
  clear h hr hcap hI1 hI2 eQ eL hb1 hwf eNB eSZ HRS 
  go_enter Try.func29, Try.ntmps29
  go_wp2_with fail
  refine (zero_ok O _ d s blk cnt HI1.out HD1.out HCAP.out).mono ?_
  rw [zero_bad1 HX.out]
  rintro e w2 ⟨er, rfl, her, hst⟩
  dsimp only at her hst
  have HST := Lib.hid (hst)
  have HTR := Lib.hid (trouble_ok _ w2 er _ _ her)
  clear her HD1 HR1 HSAME
  go_wp2_with fail
  refine HTR.out.mono ?_
  rintro e w3 ⟨rfl, nn, hw3⟩
  have HF := Lib.hid (HFIN.out w3 _ (by rw [hw3]; exact HST.out.drewN nn) rfl)
  obtain ⟨c1, c2⟩ := HOP.out w2 _ nn HST.out
  rw [← hw3] at c1 c2
  clear hw3 HTR HFIN HST HOP
  (try simp only [trB_1, trB_2, trB_3])
  go_wp2_with fail
  first | exact HF.out | (go_ret; exact HF.out)
set_option maxHeartbeats 1000000 in
set_option maxRecDepth 100000 in
theorem ref_4l (O : Nat → Prop) (w : World) (d : Nat) (s : DSt) (o : OpV) (h : DRep O w d s) (hr : RdN O w o.dv o.data) (hcap : ∀ k, ((s.ca k).length + 1) * 24 ≤ 200000000000000) (hI1 : I64 o.blk) (hI2 : I64 o.cnt) (hk : o.kind = 4) (h3 : 0 ≤ o.cnt) (h1 : o.blk < 0) :
    Calls Try.prog 29 #[.pointer (some ⟨d, 0, none⟩), o.agg, .int .i64 s.nb, .int .i64 s.sz] w (RfQ O w d (refS s o)) := by
  have hwf := h.wf
  have n1 := hwf.nb1
  have n2 := hwf.nb2
  have n3 := hwf.sz1
  obtain ⟨A, cp, edv⟩ := hr.1.slice
  obtain ⟨Q, eQ⟩ : ∃ Q, Q = RfQ O w d (refS s o) := ⟨_, rfl⟩
  rw [← eQ]
  have HRS : Hid (s = refS s o) := Lib.hid (by unfold refS; rw [if_neg (by rw [hk]; decide)])
  obtain ⟨kind, blk, cnt, dv, data⟩ := o
  dsimp only at edv hk h3 h1 hI1 hI2 HRS
  subst edv
  obtain ⟨L, eL⟩ : ∃ L, L = data.length := ⟨_, rfl⟩
  simp only [OpV.agg]
  rw [← eL]
  obtain ⟨w1, e1⟩ : ∃ w1, w1 = w.alloc (.cells #[.int .i64 kind, .int .i64 blk, .int .i64 cnt, .slice A L cp] 61) := ⟨_, rfl⟩
  have hb1 : Below w.heap.size w w1 := by rw [e1]; exact (Below.refl _ _).alloc (Nat.le_refl _) _
  obtain ⟨NB, eNB⟩ : ∃ NB, NB = s.nb := ⟨_, rfl⟩
  obtain ⟨SZ, eSZ⟩ : ∃ SZ, SZ = s.sz := ⟨_, rfl⟩
  have HFIN : Hid (∀ w2 s2, DStep O w1 w2 d s2 → s2 = s → Q (.returned (.bool true)) w2) := Lib.hid (fun w2 s2 h2 e => by
    rw [eQ, ← HRS.out, ← e]; exact ⟨rfl, DStep.comp (OnlyP.ofBelow hb1) (fun b hb => .inl hb) h2⟩)
  have HSAME : Hid (DStep O w1 w1 d s) := Lib.hid ⟨OnlyP.refl _ _, O, h.below hb1, fun b hb => .inl hb⟩
  have HD1 := Lib.hid (h.below hb1)
  have HR1 : Hid (RdN O w1 (.slice A L cp) data) := Lib.hid ⟨by rw [eL]; exact hr.1.below hb1, by rw [eL]; exact hr.2⟩
  have HOP : Hid (∀ w2 s2 n, DStep O w1 w2 d s2 → (w2.drewN n).cell? ⟨w.heap.size, 1, none⟩ = some (.int .i64 blk) ∧ (w2.drewN n).cell? ⟨w.heap.size, 2, none⟩ = some (.int .i64 cnt)) := Lib.hid (fun w2 s2 n h2 => by
    have hbk : Blk w1 w.heap.size 61 #[.int .i64 kind, .int .i64 blk, .int .i64 cnt, .slice A L cp] := by rw [e1]; exact Blk.new _ _ _
    have hk2 : Blk (w2.drewN n) w.heap.size 61 #[.int .i64 kind, .int .i64 blk, .int .i64 cnt, .slice A L cp] := (h2.1.block _ hbk.lt (fun hc => by have := h.lt hc; omega)).trans hbk
    exact ⟨hk2.cell 1, hk2.cell 2⟩)
  have EL := Lib.hid eL
  have HCAP := Lib.hid hcap
  have HCA2 : Hid (∀ k, (s.ca k).length ≤ 100000000000000) := Lib.hid (fun k => by have := hcap k; omega)
  have HI1 := Lib.hid hI1
  have HI2 := Lib.hid hI2
  subst hk
  have HX := Lib.hid h1
  have HX3 := Lib.hid (show ¬ cnt < 0 by omega)
  rw [← eNB, ← eSZ]
  rw [← eNB] at n1 n2 
  rw [← eSZ] at n3 
  have b1 : decide (blk < 0) = true := decide_eq_true (by omega)
  have c0 : decide ((0 : Int) ≤ cnt) = true := decide_eq_true (by omega)
  have c9 : decide (cnt < 0) = false := decide_eq_false (by omega)
  have c1 : decide ((0 : Int) ≤ blk) = false := decide_eq_false (by omega)
  subst e1
  clear h hr hcap hI1 hI2 eQ eL hb1 hwf eNB eSZ HRS 
  go_enter Try.func29, Try.ntmps29
  go_wp2_with fail
  refine (zero_ok O _ d s blk cnt HI1.out HD1.out HCAP.out).mono ?_
  rw [zero_bad2 (by have := HX3.out; omega) (.inl HX.out)]
  rintro e w2 ⟨er, rfl, her, hst⟩
  dsimp only at her hst
  have HST := Lib.hid (hst)
  have HTR := Lib.hid (trouble_ok _ w2 er _ _ her)
  clear her HD1 HR1 HSAME
  go_wp2_with fail
  refine HTR.out.mono ?_
  rintro e w3 ⟨rfl, nn, hw3⟩
  have HF := Lib.hid (HFIN.out w3 _ (by rw [hw3]; exact HST.out.drewN nn) rfl)
  obtain ⟨c1, c2⟩ := HOP.out w2 _ nn HST.out
  rw [← hw3] at c1 c2
  clear hw3 HTR HFIN HST HOP
  (try simp only [trB_1, trB_2, trB_3])
  go_wp2_with fail
  first | exact HF.out | (go_ret; exact HF.out)
set_option maxHeartbeats 1000000 in
set_option maxRecDepth 100000 in
theorem ref_4h (O : Nat → Prop) (w : World) (d : Nat) (s : DSt) (o : OpV) (h : DRep O w d s) (hr : RdN O w o.dv o.data) (hcap : ∀ k, ((s.ca k).length + 1) * 24 ≤ 200000000000000) (hI1 : I64 o.blk) (hI2 : I64 o.cnt) (hk : o.kind = 4) (h3 : 0 ≤ o.cnt) (h1 : 0 ≤ o.blk) (h2 : (s.nb : Int) < o.blk) :
    Calls Try.prog 29 #[.pointer (some ⟨d, 0, none⟩), o.agg, .int .i64 s.nb, .int .i64 s.sz] w (RfQ O w d (refS s o)) := by
  have hwf := h.wf
  have n1 := hwf.nb1
  have n2 := hwf.nb2
  have n3 := hwf.sz1
  obtain ⟨A, cp, edv⟩ := hr.1.slice
  obtain ⟨Q, eQ⟩ : ∃ Q, Q = RfQ O w d (refS s o) := ⟨_, rfl⟩
  rw [← eQ]
  have HRS : Hid (s = refS s o) := Lib.hid (by unfold refS; rw [if_neg (by rw [hk]; decide)])
  obtain ⟨kind, blk, cnt, dv, data⟩ := o
  dsimp only at edv hk h3 h1 h2 hI1 hI2 HRS
  subst edv
  obtain ⟨L, eL⟩ : ∃ L, L = data.length := ⟨_, rfl⟩
  simp only [OpV.agg]
  rw [← eL]
  obtain ⟨w1, e1⟩ : ∃ w1, w1 = w.alloc (.cells #[.int .i64 kind, .int .i64 blk, .int .i64 cnt, .slice A L cp] 61) := ⟨_, rfl⟩
  have hb1 : Below w.heap.size w w1 := by rw [e1]; exact (Below.refl _ _).alloc (Nat.le_refl _) _
  obtain ⟨NB, eNB⟩ : ∃ NB, NB = s.nb := ⟨_, rfl⟩
  obtain ⟨SZ, eSZ⟩ : ∃ SZ, SZ = s.sz := ⟨_, rfl⟩
  have HFIN : Hid (∀ w2 s2, DStep O w1 w2 d s2 → s2 = s → Q (.returned (.bool true)) w2) := Lib.hid (fun w2 s2 h2 e => by
    rw [eQ, ← HRS.out, ← e]; exact ⟨rfl, DStep.comp (OnlyP.ofBelow hb1) (fun b hb => .inl hb) h2⟩)
  have HSAME : Hid (DStep O w1 w1 d s) := Lib.hid ⟨OnlyP.refl _ _, O, h.below hb1, fun b hb => .inl hb⟩
  have HD1 := Lib.hid (h.below hb1)
  have HR1 : Hid (RdN O w1 (.slice A L cp) data) := Lib.hid ⟨by rw [eL]; exact hr.1.below hb1, by rw [eL]; exact hr.2⟩
  have HOP : Hid (∀ w2 s2 n, DStep O w1 w2 d s2 → (w2.drewN n).cell? ⟨w.heap.size, 1, none⟩ = some (.int .i64 blk) ∧ (w2.drewN n).cell? ⟨w.heap.size, 2, none⟩ = some (.int .i64 cnt)) := Lib.hid (fun w2 s2 n h2 => by
    have hbk : Blk w1 w.heap.size 61 #[.int .i64 kind, .int .i64 blk, .int .i64 cnt, .slice A L cp] := by rw [e1]; exact Blk.new _ _ _
    have hk2 : Blk (w2.drewN n) w.heap.size 61 #[.int .i64 kind, .int .i64 blk, .int .i64 cnt, .slice A L cp] := (h2.1.block _ hbk.lt (fun hc => by have := h.lt hc; omega)).trans hbk
    exact ⟨hk2.cell 1, hk2.cell 2⟩)
  have EL := Lib.hid eL
  have HCAP := Lib.hid hcap
  have HCA2 : Hid (∀ k, (s.ca k).length ≤ 100000000000000) := Lib.hid (fun k => by have := hcap k; omega)
  have HI1 := Lib.hid hI1
  have HI2 := Lib.hid hI2
  subst hk
  have HX := Lib.hid h2
  have HX3 := Lib.hid (show ¬ cnt < 0 by omega)
  rw [← eNB, ← eSZ]
  rw [← eNB] at n1 n2 h2
  rw [← eSZ] at n3 
  have b1 : decide (blk < 0) = false := decide_eq_false (by omega)
  have c0 : decide ((0 : Int) ≤ cnt) = true := decide_eq_true (by omega)
  have c9 : decide (cnt < 0) = false := decide_eq_false (by omega)
  have c1 : decide ((0 : Int) ≤ blk) = true := decide_eq_true (by omega)
  have c2 : decide (blk ≤ (NB : Int)) = false := decide_eq_false (by omega)
  subst e1
  clear h hr hcap hI1 hI2 eQ eL hb1 hwf eNB eSZ HRS 
  go_enter Try.func29, Try.ntmps29
  go_wp2_with fail
  refine (zero_ok O _ d s blk cnt HI1.out HD1.out HCAP.out).mono ?_
  rw [zero_bad2 (by have := HX3.out; omega) (.inr (.inl HX.out))]
  rintro e w2 ⟨er, rfl, her, hst⟩
  dsimp only at her hst
  have HST := Lib.hid (hst)
  have HTR := Lib.hid (trouble_ok _ w2 er _ _ her)
  clear her HD1 HR1 HSAME
  go_wp2_with fail
  refine HTR.out.mono ?_
  rintro e w3 ⟨rfl, nn, hw3⟩
  have HF := Lib.hid (HFIN.out w3 _ (by rw [hw3]; exact HST.out.drewN nn) rfl)
  obtain ⟨c1, c2⟩ := HOP.out w2 _ nn HST.out
  rw [← hw3] at c1 c2
  clear hw3 HTR HFIN HST HOP
  (try simp only [trB_1, trB_2, trB_3])
  go_wp2_with fail
  first | exact HF.out | (go_ret; exact HF.out)
set_option maxHeartbeats 1000000 in
set_option maxRecDepth 100000 in
theorem ref_4n (O : Nat → Prop) (w : World) (d : Nat) (s : DSt) (o : OpV) (h : DRep O w d s) (hr : RdN O w o.dv o.data) (hcap : ∀ k, ((s.ca k).length + 1) * 24 ≤ 200000000000000) (hI1 : I64 o.blk) (hI2 : I64 o.cnt) (hk : o.kind = 4) (h3 : 0 ≤ o.cnt) (h1 : 0 ≤ o.blk) (h2 : o.blk ≤ s.nb) (h4 : (s.nb : Int) - o.blk < o.cnt) :
    Calls Try.prog 29 #[.pointer (some ⟨d, 0, none⟩), o.agg, .int .i64 s.nb, .int .i64 s.sz] w (RfQ O w d (refS s o)) := by
  have hwf := h.wf
  have n1 := hwf.nb1
  have n2 := hwf.nb2
  have n3 := hwf.sz1
  obtain ⟨A, cp, edv⟩ := hr.1.slice
  obtain ⟨Q, eQ⟩ : ∃ Q, Q = RfQ O w d (refS s o) := ⟨_, rfl⟩
  rw [← eQ]
  have HRS : Hid (s = refS s o) := Lib.hid (by unfold refS; rw [if_neg (by rw [hk]; decide)])
  obtain ⟨kind, blk, cnt, dv, data⟩ := o
  dsimp only at edv hk h3 h1 h2 h4 hI1 hI2 HRS
  subst edv
  obtain ⟨L, eL⟩ : ∃ L, L = data.length := ⟨_, rfl⟩
  simp only [OpV.agg]
  rw [← eL]
  obtain ⟨w1, e1⟩ : ∃ w1, w1 = w.alloc (.cells #[.int .i64 kind, .int .i64 blk, .int .i64 cnt, .slice A L cp] 61) := ⟨_, rfl⟩
  have hb1 : Below w.heap.size w w1 := by rw [e1]; exact (Below.refl _ _).alloc (Nat.le_refl _) _
  obtain ⟨NB, eNB⟩ : ∃ NB, NB = s.nb := ⟨_, rfl⟩
  obtain ⟨SZ, eSZ⟩ : ∃ SZ, SZ = s.sz := ⟨_, rfl⟩
  have HFIN : Hid (∀ w2 s2, DStep O w1 w2 d s2 → s2 = s → Q (.returned (.bool true)) w2) := Lib.hid (fun w2 s2 h2 e => by
    rw [eQ, ← HRS.out, ← e]; exact ⟨rfl, DStep.comp (OnlyP.ofBelow hb1) (fun b hb => .inl hb) h2⟩)
  have HSAME : Hid (DStep O w1 w1 d s) := Lib.hid ⟨OnlyP.refl _ _, O, h.below hb1, fun b hb => .inl hb⟩
  have HD1 := Lib.hid (h.below hb1)
  have HR1 : Hid (RdN O w1 (.slice A L cp) data) := Lib.hid ⟨by rw [eL]; exact hr.1.below hb1, by rw [eL]; exact hr.2⟩
  have HOP : Hid (∀ w2 s2 n, DStep O w1 w2 d s2 → (w2.drewN n).cell? ⟨w.heap.size, 1, none⟩ = some (.int .i64 blk) ∧ (w2.drewN n).cell? ⟨w.heap.size, 2, none⟩ = some (.int .i64 cnt)) := Lib.hid (fun w2 s2 n h2 => by
    have hbk : Blk w1 w.heap.size 61 #[.int .i64 kind, .int .i64 blk, .int .i64 cnt, .slice A L cp] := by rw [e1]; exact Blk.new _ _ _
    have hk2 : Blk (w2.drewN n) w.heap.size 61 #[.int .i64 kind, .int .i64 blk, .int .i64 cnt, .slice A L cp] := (h2.1.block _ hbk.lt (fun hc => by have := h.lt hc; omega)).trans hbk
    exact ⟨hk2.cell 1, hk2.cell 2⟩)
  have EL := Lib.hid eL
  have HCAP := Lib.hid hcap
  have HCA2 : Hid (∀ k, (s.ca k).length ≤ 100000000000000) := Lib.hid (fun k => by have := hcap k; omega)
  have HI1 := Lib.hid hI1
  have HI2 := Lib.hid hI2
  subst hk
  have HX := Lib.hid h4
  have HX3 := Lib.hid (show ¬ cnt < 0 by omega)
  rw [← eNB, ← eSZ]
  rw [← eNB] at n1 n2 h2 h4
  rw [← eSZ] at n3 
  have b1 : decide (blk < 0) = false := decide_eq_false (by omega)
  have c0 : decide ((0 : Int) ≤ cnt) = true := decide_eq_true (by omega)
  have c9 : decide (cnt < 0) = false := decide_eq_false (by omega)
  have c1 : decide ((0 : Int) ≤ blk) = true := decide_eq_true (by omega)
  have c2 : decide (blk ≤ (NB : Int)) = true := decide_eq_true (by omega)
  have m1 : IntKind.i64.wrap ((NB : Int) - blk) = (NB : Int) - blk := IntWalk.i64_in _ (by omega)
  have c3 : decide (cnt ≤ (NB : Int) - blk) = false := decide_eq_false (by omega)
  subst e1
  clear h hr hcap hI1 hI2 eQ eL hb1 hwf eNB eSZ HRS 
  go_enter Try.func29, Try.ntmps29
  go_wp2_with fail
  refine (zero_ok O _ d s blk cnt HI1.out HD1.out HCAP.out).mono ?_
  rw [zero_bad2 (by have := HX3.out; omega) (.inr (.inr HX.out))]
  rintro e w2 ⟨er, rfl, her, hst⟩
  dsimp only at her hst
  have HST := Lib.hid (hst)
  have HTR := Lib.hid (trouble_ok _ w2 er _ _ her)
  clear her HD1 HR1 HSAME
  go_wp2_with fail
  refine HTR.out.mono ?_
  rintro e w3 ⟨rfl, nn, hw3⟩
  have HF := Lib.hid (HFIN.out w3 _ (by rw [hw3]; exact HST.out.drewN nn) rfl)
  obtain ⟨c1, c2⟩ := HOP.out w2 _ nn HST.out
  rw [← hw3] at c1 c2
  clear hw3 HTR HFIN HST HOP
  (try simp only [trB_1, trB_2, trB_3])
  go_wp2_with fail
  first | exact HF.out | (go_ret; exact HF.out)
set_option maxHeartbeats 1000000 in
set_option maxRecDepth 100000 in
theorem ref_noa (O : Nat → Prop) (w : World) (d : Nat) (s : DSt) (o : OpV) (h : DRep O w d s) (hr : RdN O w o.dv o.data) (hcap : ∀ k, ((s.ca k).length + 1) * 24 ≤ 200000000000000) (hI1 : I64 o.blk) (hI2 : I64 o.cnt) (hk : ¬ (o.kind = 1 ∨ o.kind = 2 ∨ o.kind = 3 ∨ o.kind = 4 ∨ o.kind = 8 ∨ o.kind = 10)) (h2 : o.blk < 0) :
    Calls Try.prog 29 #[.pointer (some ⟨d, 0, none⟩), o.agg, .int .i64 s.nb, .int .i64 s.sz] w (RfQ O w d (refS s o)) := by
  have hwf := h.wf
  have n1 := hwf.nb1
  have n2 := hwf.nb2
  have n3 := hwf.sz1
  obtain ⟨A, cp, edv⟩ := hr.1.slice
  obtain ⟨Q, eQ⟩ : ∃ Q, Q = RfQ O w d (refS s o) := ⟨_, rfl⟩
  rw [← eQ]
  have HRS : Hid (s = refS s o) := Lib.hid (by unfold refS; rw [if_neg (fun h => hk (.inl h))])
  obtain ⟨kind, blk, cnt, dv, data⟩ := o
  dsimp only at edv hk h2 hI1 hI2 HRS
  subst edv
  obtain ⟨L, eL⟩ : ∃ L, L = data.length := ⟨_, rfl⟩
  simp only [OpV.agg]
  rw [← eL]
  obtain ⟨w1, e1⟩ : ∃ w1, w1 = w.alloc (.cells #[.int .i64 kind, .int .i64 blk, .int .i64 cnt, .slice A L cp] 61) := ⟨_, rfl⟩
  have hb1 : Below w.heap.size w w1 := by rw [e1]; exact (Below.refl _ _).alloc (Nat.le_refl _) _
  obtain ⟨NB, eNB⟩ : ∃ NB, NB = s.nb := ⟨_, rfl⟩
  obtain ⟨SZ, eSZ⟩ : ∃ SZ, SZ = s.sz := ⟨_, rfl⟩
  have HFIN : Hid (∀ w2 s2, DStep O w1 w2 d s2 → s2 = s → Q (.returned (.bool true)) w2) := Lib.hid (fun w2 s2 h2 e => by
    rw [eQ, ← HRS.out, ← e]; exact ⟨rfl, DStep.comp (OnlyP.ofBelow hb1) (fun b hb => .inl hb) h2⟩)
  have HSAME : Hid (DStep O w1 w1 d s) := Lib.hid ⟨OnlyP.refl _ _, O, h.below hb1, fun b hb => .inl hb⟩
  have HD1 := Lib.hid (h.below hb1)
  have HR1 : Hid (RdN O w1 (.slice A L cp) data) := Lib.hid ⟨by rw [eL]; exact hr.1.below hb1, by rw [eL]; exact hr.2⟩
  have HOP : Hid (∀ w2 s2 n, DStep O w1 w2 d s2 → (w2.drewN n).cell? ⟨w.heap.size, 1, none⟩ = some (.int .i64 blk) ∧ (w2.drewN n).cell? ⟨w.heap.size, 2, none⟩ = some (.int .i64 cnt)) := Lib.hid (fun w2 s2 n h2 => by
    have hbk : Blk w1 w.heap.size 61 #[.int .i64 kind, .int .i64 blk, .int .i64 cnt, .slice A L cp] := by rw [e1]; exact Blk.new _ _ _
    have hk2 : Blk (w2.drewN n) w.heap.size 61 #[.int .i64 kind, .int .i64 blk, .int .i64 cnt, .slice A L cp] := (h2.1.block _ hbk.lt (fun hc => by have := h.lt hc; omega)).trans hbk
    exact ⟨hk2.cell 1, hk2.cell 2⟩)
  have EL := Lib.hid eL
  have HCAP := Lib.hid hcap
  have HCA2 : Hid (∀ k, (s.ca k).length ≤ 100000000000000) := Lib.hid (fun k => by have := hcap k; omega)
  have HI1 := Lib.hid hI1
  have HI2 := Lib.hid hI2
  have m1 : (kind == 1) = false := by simp; omega
  have m2 : (kind == 2) = false := by simp; omega
  have m3 : (kind == 3) = false := by simp; omega
  have m4 : (kind == 4) = false := by simp; omega
  have m8 : (kind == 8) = false := by simp; omega
  have m10 : (kind == 10) = false := by simp; omega
  rw [← eNB, ← eSZ]
  rw [← eNB] at n1 n2 
  rw [← eSZ] at n3 
  have b1 : decide (blk < 0) = true := decide_eq_true (by omega)
  subst e1
  clear h hr hcap hI1 hI2 eQ eL hb1 hwf eNB eSZ HRS hk
  go_enter Try.func29, Try.ntmps29
  go_wp2_with fail
  have HF := Lib.hid (HFIN.out _ s HSAME.out rfl)
  first | exact HF.out | (go_ret; exact HF.out)
set_option maxHeartbeats 1000000 in
set_option maxRecDepth 100000 in
theorem ref_nob (O : Nat → Prop) (w : World) (d : Nat) (s : DSt) (o : OpV) (h : DRep O w d s) (hr : RdN O w o.dv o.data) (hcap : ∀ k, ((s.ca k).length + 1) * 24 ≤ 200000000000000) (hI1 : I64 o.blk) (hI2 : I64 o.cnt) (hk : ¬ (o.kind = 1 ∨ o.kind = 2 ∨ o.kind = 3 ∨ o.kind = 4 ∨ o.kind = 8 ∨ o.kind = 10)) (h2 : 0 ≤ o.blk) :
    Calls Try.prog 29 #[.pointer (some ⟨d, 0, none⟩), o.agg, .int .i64 s.nb, .int .i64 s.sz] w (RfQ O w d (refS s o)) := by
  have hwf := h.wf
  have n1 := hwf.nb1
  have n2 := hwf.nb2
  have n3 := hwf.sz1
  obtain ⟨A, cp, edv⟩ := hr.1.slice
  obtain ⟨Q, eQ⟩ : ∃ Q, Q = RfQ O w d (refS s o) := ⟨_, rfl⟩
  rw [← eQ]
  have HRS : Hid (s = refS s o) := Lib.hid (by unfold refS; rw [if_neg (fun h => hk (.inl h))])
  obtain ⟨kind, blk, cnt, dv, data⟩ := o
  dsimp only at edv hk h2 hI1 hI2 HRS
  subst edv
  obtain ⟨L, eL⟩ : ∃ L, L = data.length := ⟨_, rfl⟩
  simp only [OpV.agg]
  rw [← eL]
  obtain ⟨w1, e1⟩ : ∃ w1, w1 = w.alloc (.cells #[.int .i64 kind, .int .i64 blk, .int .i64 cnt, .slice A L cp] 61) := ⟨_, rfl⟩
  have hb1 : Below w.heap.size w w1 := by rw [e1]; exact (Below.refl _ _).alloc (Nat.le_refl _) _
  obtain ⟨NB, eNB⟩ : ∃ NB, NB = s.nb := ⟨_, rfl⟩
  obtain ⟨SZ, eSZ⟩ : ∃ SZ, SZ = s.sz := ⟨_, rfl⟩
  have HFIN : Hid (∀ w2 s2, DStep O w1 w2 d s2 → s2 = s → Q (.returned (.bool true)) w2) := Lib.hid (fun w2 s2 h2 e => by
    rw [eQ, ← HRS.out, ← e]; exact ⟨rfl, DStep.comp (OnlyP.ofBelow hb1) (fun b hb => .inl hb) h2⟩)
  have HSAME : Hid (DStep O w1 w1 d s) := Lib.hid ⟨OnlyP.refl _ _, O, h.below hb1, fun b hb => .inl hb⟩
  have HD1 := Lib.hid (h.below hb1)
  have HR1 : Hid (RdN O w1 (.slice A L cp) data) := Lib.hid ⟨by rw [eL]; exact hr.1.below hb1, by rw [eL]; exact hr.2⟩
  have HOP : Hid (∀ w2 s2 n, DStep O w1 w2 d s2 → (w2.drewN n).cell? ⟨w.heap.size, 1, none⟩ = some (.int .i64 blk) ∧ (w2.drewN n).cell? ⟨w.heap.size, 2, none⟩ = some (.int .i64 cnt)) := Lib.hid (fun w2 s2 n h2 => by
    have hbk : Blk w1 w.heap.size 61 #[.int .i64 kind, .int .i64 blk, .int .i64 cnt, .slice A L cp] := by rw [e1]; exact Blk.new _ _ _
    have hk2 : Blk (w2.drewN n) w.heap.size 61 #[.int .i64 kind, .int .i64 blk, .int .i64 cnt, .slice A L cp] := (h2.1.block _ hbk.lt (fun hc => by have := h.lt hc; omega)).trans hbk
    exact ⟨hk2.cell 1, hk2.cell 2⟩)
  have EL := Lib.hid eL
  have HCAP := Lib.hid hcap
  have HCA2 : Hid (∀ k, (s.ca k).length ≤ 100000000000000) := Lib.hid (fun k => by have := hcap k; omega)
  have HI1 := Lib.hid hI1
  have HI2 := Lib.hid hI2
  have m1 : (kind == 1) = false := by simp; omega
  have m2 : (kind == 2) = false := by simp; omega
  have m3 : (kind == 3) = false := by simp; omega
  have m4 : (kind == 4) = false := by simp; omega
  have m8 : (kind == 8) = false := by simp; omega
  have m10 : (kind == 10) = false := by simp; omega
  rw [← eNB, ← eSZ]
  rw [← eNB] at n1 n2 
  rw [← eSZ] at n3 
  have b1 : decide (blk < 0) = false := decide_eq_false (by omega)
  subst e1
  clear h hr hcap hI1 hI2 eQ eL hb1 hwf eNB eSZ HRS hk
  go_enter Try.func29, Try.ntmps29
  go_wp2_with fail
  have HF := Lib.hid (HFIN.out _ s HSAME.out rfl)
  first | exact HF.out | (go_ret; exact HF.out)
theorem refused_ok (O : Nat → Prop) (w : World) (d : Nat) (s : DSt) (o : OpV) (h : DRep O w d s) (hr : RdN O w o.dv o.data) (hcap : ∀ k, ((s.ca k).length + 1) * 24 ≤ 200000000000000) (hI1 : I64 o.blk) (hI2 : I64 o.cnt) :
    Calls Try.prog 29 #[.pointer (some ⟨d, 0, none⟩), o.agg, .int .i64 s.nb, .int .i64 s.sz] w (RfQ O w d (refS s o)) := by
  by_cases hk : o.kind = 1 ∨ o.kind = 2 ∨ o.kind = 3 ∨ o.kind = 4 ∨ o.kind = 8 ∨ o.kind = 10
  · have hp : (0 ≤ o.blk ∧ o.blk < s.nb) ∨ o.blk < 0 ∨ (0 ≤ o.blk ∧ (s.nb : Int) ≤ o.blk) := by omega
    rcases hk with hk | hk | hk | hk | hk | hk
    · rcases hp with ⟨h1, h2⟩ | h1 | ⟨h1, h2⟩
      · exact ref_1in O w d s o h hr hcap hI1 hI2 hk h1 h2
      · exact ref_1lo O w d s o h hr hcap hI1 hI2 hk h1
      · exact ref_1hi O w d s o h hr hcap hI1 hI2 hk h1 h2
    · rcases hp with ⟨h1, h2⟩ | h1 | ⟨h1, h2⟩
      · by_cases h3 : o.data.length = s.sz
        · exact ref_2inf O w d s o h hr hcap hI1 hI2 hk h1 h2 h3
        · exact ref_2inn O w d s o h hr hcap hI1 hI2 hk h1 h2 h3
      · exact ref_2lo O w d s o h hr hcap hI1 hI2 hk h1
      · exact ref_2hi O w d s o h hr hcap hI1 hI2 hk h1 h2
    · rcases hp with ⟨h1, h2⟩ | h1 | ⟨h1, h2⟩
      · by_cases h3 : o.data.length = s.sz
        · exact ref_3inf O w d s o h hr hcap hI1 hI2 hk h1 h2 h3
        · exact ref_3inn O w d s o h hr hcap hI1 hI2 hk h1 h2 h3
      · exact ref_3lo O w d s o h hr hcap hI1 hI2 hk h1
      · exact ref_3hi O w d s o h hr hcap hI1 hI2 hk h1 h2
    · by_cases h3 : o.cnt < 0
      · by_cases h1 : o.blk < 0
        · exact ref_4ca O w d s o h hr hcap hI1 hI2 hk h3 h1
        · exact ref_4cb O w d s o h hr hcap hI1 hI2 hk h3 (by omega)
      · by_cases h1 : o.blk < 0
        · exact ref_4l O w d s o h hr hcap hI1 hI2 hk (by omega) h1
        · by_cases h2 : (s.nb : Int) < o.blk
          · exact ref_4h O w d s o h hr hcap hI1 hI2 hk (by omega) (by omega) h2
          · by_cases h4 : (s.nb : Int) - o.blk < o.cnt
            · exact ref_4n O w d s o h hr hcap hI1 hI2 hk (by omega) (by omega) (by omega) h4
            · exact ref_4f O w d s o h hr hcap hI1 hI2 hk (by omega) (by omega) (by omega) (by omega)
    · rcases hp with ⟨h1, h2⟩ | h1 | ⟨h1, h2⟩
      · exact ref_8in O w d s o h hr hcap hI1 hI2 hk h1 h2
      · exact ref_8lo O w d s o h hr hcap hI1 hI2 hk h1
      · exact ref_8hi O w d s o h hr hcap hI1 hI2 hk h1 h2
    · rcases hp with ⟨h1, h2⟩ | h1 | ⟨h1, h2⟩
      · exact ref_10in O w d s o h hr hcap hI1 hI2 hk h1 h2
      · exact ref_10lo O w d s o h hr hcap hI1 hI2 hk h1
      · exact ref_10hi O w d s o h hr hcap hI1 hI2 hk h1 h2
  · by_cases h1 : o.blk < 0
    · exact ref_noa O w d s o h hr hcap hI1 hI2 hk h1
    · exact ref_nob O w d s o h hr hcap hI1 hI2 hk (by omega)
end Go.Proofs.Ytigfcoibbmndpaa
