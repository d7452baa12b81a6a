/- The disk's calls: Through. -/
import Derived.Test.YtgehbfnfhjpjbaaDoorDisH
namespace Go.Proofs.YtgehbfnfhjpjbaaDoor
open Go.RowKit
open Go.ChangeMaps
set_option linter.unusedVariables false
set_option linter.unusedSimpArgs false
/-- A block's cached writes forgotten, the disk in the world. -/
theorem DRepX.forget {w w1 : World} {d m c B ms mc : Nat} {F : Int → Option Value} {G : Nat → Prop} {s : DSt} (h : DRepX w d m c B ms mc F G s) (k : Nat) (ho : OnlyP (fun b => b = mc) w w1) (hm : MapI w1 mc (updI F k none)) : DRepX w1 d m c B ms mc (updI F k none) G { s with ca := dropC s.ca k } := by
  have far : ∀ b, b < w.heap.size → b ≠ mc → w1.heap[b]? = w.heap[b]? := fun b hb hn => ho.block b hb hn
  refine ⟨⟨h.wf.nb1, h.wf.nb2, h.wf.sz0, h.wf.sz1, h.wf.dl, fun i l hi => ?_, fun i hi => ?_, h.wf.f0, h.wf.f1⟩, (far d h.blk.lt (h.blk.ne_map h.cac.map)).trans h.blk, ?_, ⟨(far c h.cac.blk.lt (h.cac.blk.ne_map h.cac.map)).trans h.cac.blk, hm⟩, ?_, h.ne, fun b hb => ?_⟩
  · have hi' : l ∈ dropC s.ca k i := hi
    unfold dropC at hi'
    split at hi'
    · simp at hi'
    · exact h.wf.cl i l hi'
  · show dropC s.ca k i = []
    unfold dropC
    split
    · rfl
    · exact h.wf.cn i hi
  · exact h.med.keep (far m h.med.blk.lt (h.med.blk.ne_map h.cac.map)) (far B h.med.row.lt (h.med.row.ne_map h.cac.map)) (far ms h.med.map.lt (fun e => h.ne e.symm))
  · exact (h.car.keep (fun b hb => far b (h.apart b hb).1 (h.apart b hb).2.2.2.2.2.2)).drop k _ rfl rfl rfl
  · obtain ⟨a, r⟩ := h.apart b hb
    exact ⟨Nat.lt_of_lt_of_le a ho.size, r⟩
def laidS (s : DSt) (k : Nat) (xs : List Int) : DSt := { s with ca := dropC s.ca k, dur := layD s.dur k xs, sp := clrS s.sp k }
/-- A block laid down, its cached writes forgotten. -/
theorem DRepX.laid {w w1 : World} {d m c B ms mc k : Nat} {F : Int → Option Value} {G : Nat → Prop} {s : DSt} {xs : List Int} (h : DRepX w d m c B ms mc F G s) (hl : xs.length = s.sz) (ho : OnlyP (ThreeO ms B mc) w w1) (hM : MedR w1 m B ms s.nb s.sz (layF (durF s) (k * s.sz) xs) (updI (spF s) k none)) (hm : MapI w1 mc (updI F k none)) : DRepX w1 d m c B ms mc (updI F k none) G (laidS s k xs) := by
  have far : ∀ b, b < w.heap.size → b ≠ ms → b ≠ B → b ≠ mc → w1.heap[b]? = w.heap[b]? := fun b hb h1 h2 h3 => ho.block b hb (fun hc => hc.elim h1 (fun hc => hc.elim h2 h3))
  refine ⟨⟨h.wf.nb1, h.wf.nb2, h.wf.sz0, h.wf.sz1, fun i hi => ?_, fun i l hi => ?_, fun i hi => ?_, h.wf.f0, h.wf.f1⟩, (far d h.blk.lt (h.blk.ne_map h.med.map) (fun e => h.med.row.ne_blk h.blk (by decide) e.symm) (h.blk.ne_map h.cac.map)).trans h.blk, hM.laid hl h.wf.sz0 rfl rfl rfl rfl, ⟨(far c h.cac.blk.lt (h.cac.blk.ne_map h.med.map) (fun e => h.med.row.ne_blk h.cac.blk (by decide) e.symm) (h.cac.blk.ne_map h.cac.map)).trans h.cac.blk, hm⟩, ?_, h.ne, fun b hb => ?_⟩
  · show (layD s.dur k xs i).length = s.sz
    unfold layD
    split
    · exact hl
    · exact h.wf.dl i hi
  · have hi' : l ∈ dropC s.ca k i := hi
    unfold dropC at hi'
    split at hi'
    · simp at hi'
    · exact h.wf.cl i l hi'
  · show dropC s.ca k i = []
    unfold dropC
    split
    · rfl
    · exact h.wf.cn i hi
  · exact (h.car.keep (fun b hb => far b (h.apart b hb).1 (h.apart b hb).2.2.2.2.2.1 (h.apart b hb).2.2.2.2.1 (h.apart b hb).2.2.2.2.2.2)).drop k _ rfl rfl rfl
  · obtain ⟨a, r⟩ := h.apart b hb
    exact ⟨Nat.lt_of_lt_of_le a ho.size, r⟩
def thruS (s : DSt) (k : Nat) (xs : List Int) : DSt := { laidS s k xs with c2 := IntKind.i64.wrap (s.c2 + 1) }
noncomputable def throughS (s : DSt) (j : Int) (xs : List Int) : DSt := if wrE s j xs.length ≠ 0 then s else if stepB s = true then thruS (stepS s) j.toNat xs else stepS s
theorem del_plain {w : World} {mc k : Nat} {F : Int → Option Value} (h : MapI w mc F) (hk : k ≤ 8192) : DelLaw w mc mc k (fun W => MapI W mc (updI F k none)) :=
  fun W h1 _ ty => (h.keep h1).del Tryd.underlying3 Tryd.underlying59 (i64_nat k (by omega)) ty
set_option maxHeartbeats 2000000 in
set_option maxRecDepth 100000 in
theorem through_ok (O : Nat → Prop) (w : World) (d : Nat) (s : DSt) (j : Int) (v : Value) (xs : List Int) (h : DRep O w d s) (hr : RdN O w v xs) :
    Calls Tryd.prog 8 #[.pointer (some ⟨d, 0, none⟩), .int .i64 j, v] w (AnsQ O w d (throughS s j xs) (writeE s j xs.length) j) := by
  have h' := h
  obtain ⟨m, c, B, ms, mc, F, G, hx, hO, hl⟩ := h
  obtain ⟨A, cp, rfl⟩ := hr.1.slice
  have hwr := writable_ok w d m c s j A xs.length cp hx.blk
  obtain ⟨r0, er0⟩ : ∃ r0, r0 = wrE s j xs.length := ⟨_, rfl⟩
  rw [← er0] at hwr
  obtain ⟨n, en⟩ : ∃ n, n = xs.length := ⟨_, rfl⟩
  obtain ⟨Q, eQ⟩ : ∃ Q, Q = AnsQ O w d (throughS s j xs) (writeE s j xs.length) j := ⟨_, rfl⟩
  rw [← eQ]
  have EQ := Lib.hid eQ
  rw [← en] at hwr ⊢
  have HWR := Lib.hid hwr
  have HX := Lib.hid hx
  have HR := Lib.hid hr
  have HD := Lib.hid h'
  have HO := Lib.hid hO
  have HL := Lib.hid hl
  have ER := Lib.hid er0
  have EN := Lib.hid en
  clear hwr hr h' hO hl er0 en eQ
  by_cases h0 : r0 = 0
  · have t0 : (r0 != 0) = false := by simp [h0]
    have hin : s.inr j ∧ xs.length = s.sz := by
      have := ER.out; rw [h0] at this
      unfold wrE at this
      by_cases a : s.inr j
      · rw [if_pos a] at this
        by_cases b : xs.length = s.sz
        · exact ⟨a, b⟩
        · rw [if_neg b] at this; cases this
      · rw [if_neg a] at this; cases this
    obtain ⟨⟨hj0, hj1⟩, hlen⟩ := hin
    obtain ⟨k, rfl⟩ : ∃ k : Nat, j = k := ⟨j.toNat, by omega⟩
    have hst := step_blk w d m c s hx.blk hx.wf
    obtain ⟨b0, eb0⟩ : ∃ b, b = stepB s := ⟨_, rfl⟩
    rw [← eb0] at hst
    have HST := Lib.hid hst
    have EB := Lib.hid eb0
    have H0 := Lib.hid h0
    have HLEN := Lib.hid hlen
    clear hst eb0 h0 hlen hx
    cases b0
    · go_enter Tryd.func8, Tryd.ntmps8
      go_wp2_with (go_at_call 17; with_reducible refine HWR.out.mono ?_; rintro e w' ⟨rfl, rfl⟩)
      refine HST.out.mono ?_
      rintro e w1 ⟨rfl, ho1, hb1⟩
      have hs := stepS_same s
      have hx1 := ho1.cellsX HX.out hb1 (stepS_wf HX.out.wf) hs.1 hs.2.1 hs.2.2.1 hs.2.2.2.1 hs.2.2.2.2
      have hd1 : DRep O w1 d (stepS s) := ⟨m, c, B, ms, mc, F, G, hx1, HO.out, fun b hb => by rw [ho1.2.2.2.1]; exact HL.out b hb⟩
      have hon : OnlyP O w w1 := ho1.only (HO.out d (.inl rfl))
      have hfin : ∀ e w2, RefQ w1 k 22 e w2 → Q e w2 := fun e w2 hq => by
        rw [EQ.out]
        have e1 : writeE s k xs.length = 22 := by unfold writeE; rw [← ER.out, H0.out, if_neg (by simp), if_neg (by rw [← EB.out]; simp)]
        have e2 : throughS s k xs = stepS s := by unfold throughS; rw [← ER.out, H0.out, if_neg (by simp), if_neg (by rw [← EB.out]; simp)]
        rw [e1, e2]
        exact ref_ans hq (by decide) hon hd1
      have HF := Lib.hid hfin
      clear hfin hs hx1 hd1 hon hb1 ho1
      go_wp2_with fail
      refine (refuse_ok _ _ _).mono ?_
      intro e w2 hq
      have hq2 := HF.out e w2 hq
      obtain ⟨b, rfl, _⟩ := hq
      have HQ2 := Lib.hid hq2
      clear hq2
      go_wp2_with fail
      first | exact HQ2.out | (go_ret; exact HQ2.out)
    · go_enter Tryd.func8, Tryd.ntmps8
      go_wp2_with (go_at_call 17; with_reducible refine HWR.out.mono ?_; rintro e w' ⟨rfl, rfl⟩)
      refine HST.out.mono ?_
      rintro e w1 ⟨rfl, ho1, hb1⟩
      have hs := stepS_same s
      have hx1 := ho1.cellsX HX.out hb1 (stepS_wf HX.out.wf) hs.1 hs.2.1 hs.2.2.1 hs.2.2.2.1 hs.2.2.2.2
      have hon : OnlyP O w w1 := ho1.only (HO.out d (.inl rfl))
      obtain ⟨s1, es1⟩ : ∃ s1, s1 = stepS s := ⟨_, rfl⟩
      rw [← es1] at hx1 hb1 hs
      have hlen1 : xs.length = s1.sz := by rw [hs.2.1]; exact HLEN.out
      have hk1 : k < s1.nb := by have := hs.1; omega
      have hnb2 := hx1.wf.nb2
      have c3 : w1.cell? ⟨d, 3, none⟩ = some (.pointer (some ⟨c, 0, none⟩)) := hb1.cell 3
      have c2 : w1.cell? ⟨d, 2, none⟩ = some (.pointer (some ⟨m, 0, none⟩)) := hb1.cell 2
      have hse := settle_zero w1.drew c mc mc k (.iface 50 (.pointer (some ⟨m, 0, none⟩))) (fun W => MapI W mc (updI F k none)) hx1.cac.blk (del_plain (w := w1.drew) (hx1.cac.map.drewN 1) (by omega))
      have HSE := Lib.hid hse
      have HX1 := Lib.hid hx1
      have HON := Lib.hid hon
      have ES1 := Lib.hid es1
      have HLEN1 := Lib.hid hlen1
      clear hx1 hon es1 hs hb1 ho1 hlen1 hse
      go_wp2_with fail
      go_still_tail 10, (by kernel_rfl)
      go_wp2_with fail
      refine HSE.out.mono ?_
      rintro e w2 ⟨rfl, hm2, ho2⟩
      have hdm : d ≠ mc := HX1.out.blk.ne_map HX1.out.cac.map
      have c2' : w2.cell? ⟨d, 2, none⟩ = some (.pointer (some ⟨m, 0, none⟩)) := (cell_of_heap (ho2.far hdm) 2).trans c2
      have hon2 : OnlyP (fun b => b = mc) w1 w2 := ((OnlyP.refl _ w1).drew).one ho2 (.inl rfl)
      have hM2 : MedR w2 m B ms s1.nb s1.sz (durF s1) (spF s1) := HX1.out.med.keep (ho2.far (HX1.out.med.blk.ne_map HX1.out.cac.map)) (ho2.far (HX1.out.med.row.ne_map HX1.out.cac.map)) (ho2.far (fun e => HX1.out.ne e.symm))
      have hOmc : O mc := HO.out mc (.inr (.inr (.inr (.inr (.inr (.inl rfl))))))
      have honw2 : OnlyP O w w2 := HON.out.then (hon2.mono (fun b hb => hb ▸ hOmc))
      have hlay := put_med w2 d m B ms s1.nb s1.sz k (durF s1) (spF s1) A n cp (fun e w3 => e = .returned (.tuple #[]) ∧ OnlyP (TwoO ms B) w2 w3 ∧ MedR w3 m B ms s1.nb s1.sz (layF (durF s1) (k * s1.sz) xs) (updI (spF s1) k none)) (by
        have := mlay_ok w2 m B ms s1.nb s1.sz k (durF s1) (spF s1) (.slice A xs.length cp) xs hM2 hk1 hnb2 HX1.out.wf.sz0 HX1.out.wf.sz1 (HR.out.only honw2) HLEN1.out
        rw [← EN.out] at this; exact this.mono fun e w' hq => ⟨hq.1, hq⟩)
      have HLAY := Lib.hid hlay
      have HM2 := Lib.hid hm2
      have HON2 := Lib.hid hon2
      have HONW2 := Lib.hid honw2
      clear hlay hm2 hon2 hM2 honw2 ho2 c2 c3 HSE
      go_wp2_with fail
      refine HLAY.out.mono ?_
      rintro e w3 ⟨rfl, ho3, hm3⟩
      have hBmc : B ≠ mc := HX1.out.med.row.ne_map HX1.out.cac.map
      have hmap3 : MapI w3 mc (updI F k none) := HM2.out.keep (ho3.block mc HM2.out.lt (fun hc => hc.elim HX1.out.ne (fun e => hBmc e.symm)))
      have hon3 : OnlyP (ThreeO ms B mc) w1 w3 := (HON2.out.mono (fun b hb => .inr (.inr hb)) : OnlyP (ThreeO ms B mc) w1 w2).trans ho3 (fun b hb => .inl (hb.elim .inl (fun h => .inr (.inl h))))
      have hx3 := HX1.out.laid HLEN1.out hon3 hm3 hmap3
      have honw3 : OnlyP O w w3 := HON.out.then (hon3.mono (fun b hb => by
        rcases hb with rfl | rfl | rfl
        · exact HO.out _ (.inr (.inr (.inr (.inr (.inl rfl)))))
        · exact HO.out _ (.inr (.inr (.inr (.inl rfl))))
        · exact HO.out _ (.inr (.inr (.inr (.inr (.inr (.inl rfl))))))))
      have d9 : w3.cell? ⟨d, 9, none⟩ = some (.int .i64 s1.c2) := hx3.blk.cell 9
      have f9 := hx3.blk.free 9
      obtain ⟨y, ey⟩ : ∃ y, y = IntKind.i64.wrap (s1.c2 + 1) := ⟨_, rfl⟩
      have my : IntKind.i64.wrap (s1.c2 + 1) = y := ey.symm
      have hfin : Q (.returned .nilIface) (w3.setCell ⟨d, 9, none⟩ (.int .i64 y)) := by
        rw [EQ.out]
        have q1 : writeE s k xs.length = 0 := by unfold writeE; rw [← ER.out, H0.out, if_neg (by simp), if_pos EB.out.symm]
        have q2 : throughS s k xs = thruS s1 k xs := by unfold throughS; rw [← ER.out, H0.out, if_neg (by simp), if_pos EB.out.symm, ES1.out]; rfl
        rw [q1, q2]
        have hone : OneD w3 (w3.setCell ⟨d, 9, none⟩ (.int .i64 y)) d := (OneD.refl _ _).set _ _
        have hx4 := hone.cellsX hx3 (s1 := thruS s1 k xs) (by have := hx3.blk.set 9 (.int .i64 y); rw [ey] at this ⊢; exact this) ⟨hx3.wf.nb1, hx3.wf.nb2, hx3.wf.sz0, hx3.wf.sz1, hx3.wf.dl, hx3.wf.cl, hx3.wf.cn, hx3.wf.f0, hx3.wf.f1⟩ rfl rfl rfl rfl rfl
        have hon4 : OnlyP O w (w3.setCell ⟨d, 9, none⟩ (.int .i64 y)) := honw3.set (.inl (HO.out d (.inl rfl))) _
        exact ⟨_, rfl, .inl ⟨rfl, rfl⟩, hx4.rep HO.out HL.out hon4 (fun b hb => .inl hb)⟩
      have HF := Lib.hid hfin
      clear hfin hx3 honw3 hon3 hmap3 hm3 ho3 ey
      go_wp2_with fail
      first | exact HF.out | (go_ret; exact HF.out)
  · have t0 : (r0 != 0) = true := by simp [h0]
    have hfin : ∀ e w2, RefQ w j r0 e w2 → Q e w2 := fun e w2 hq => by
      rw [EQ.out]
      have e1 : writeE s j xs.length = r0 := by unfold writeE; rw [← ER.out, if_pos h0]
      have e2 : throughS s j xs = s := by unfold throughS; rw [← ER.out, if_pos h0]
      rw [e1, e2]
      exact ref_ans hq h0 (OnlyP.refl _ _) HD.out
    have HF := Lib.hid hfin
    clear hfin h0 hx
    go_enter Tryd.func8, Tryd.ntmps8
    go_wp2_with (go_at_call 17; with_reducible refine HWR.out.mono ?_; rintro e w' ⟨rfl, rfl⟩)
    refine (refuse_ok _ _ _).mono ?_
    intro e w2 hq
    have hq2 := HF.out e w2 hq
    obtain ⟨b, rfl, _⟩ := hq
    have HQ2 := Lib.hid hq2
    clear hq2
    go_wp2_with fail
    first | exact HQ2.out | (go_ret; exact HQ2.out)
end Go.Proofs.YtgehbfnfhjpjbaaDoor
