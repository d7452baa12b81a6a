/- Joined of the texts RdP LxJ. -/
import Derived.Test.YtigfcoibbmndpaaGreatRdO
import Derived.Outline
import Derived.Deep.RegionHeld3
import Derived.Test.YtigfcoibbmndpaaGreatMxC
import Derived.Deep.RegionLaw
import Derived.Deep.CutRange
/- The reference's Through. -/
namespace Go.Proofs.YtigfcoibbmndpaaGreat
open Go.RowKit
open Go.ChangeMaps
set_option linter.unusedVariables false
set_option linter.unusedSimpArgs false
set_option maxHeartbeats 4000000 in
set_option maxRecDepth 100000 in
theorem rthrough_ok (P : Nat → Prop) (w : World) (r : Nat) (s : DSt) (wh j : Int) (n : Nat) (v : Value) (xs : List Int) (h : RRep P w r s wh n) (hr : RdN P w v xs) (hm : xs.length ≤ 140737488351232) (hn32 : n * 32 ≤ 140737488355328) :
    Calls Tryz.prog 55 #[.pointer (some ⟨r, 0, none⟩), .int .i64 j, v] w (RNumQ P w r (throughS s j xs) (writeE s j xs.length) j n) := by
  obtain ⟨Bm, Bs, cm, cs, vc, G, C, hx, hP, hl, hn⟩ := h
  obtain ⟨Q, eQ⟩ : ∃ Q, Q = RNumQ P w r (throughS s j xs) (writeE s j xs.length) j n := ⟨_, rfl⟩
  rw [← eQ]
  have EQ := Lib.hid eQ
  obtain ⟨A, cp, rfl⟩ := hr.1.slice
  have hfit := fits_ok w r s _ _ vc wh j A xs.length cp hx.blk
  have hn1 : C.length ≤ n := hn
  by_cases hw : wrE s j xs.length = 0
  · have hj : s.inr j := by
      by_cases h : s.inr j
      · exact h
      · exfalso; unfold wrE at hw; rw [if_neg h] at hw; exact absurd hw (by decide)
    obtain ⟨k, rfl⟩ : ∃ k : Nat, j = k := ⟨j.toNat, by have := hj.1; omega⟩
    have hk : k < s.nb := by have := hj.2; omega
    have hxl : xs.length = s.sz := by
      by_cases h : xs.length = s.sz
      · exact h
      · exfalso; unfold wrE at hw; rw [if_pos hj, if_neg h] at hw; exact absurd hw (by decide)
    rw [hw] at hfit
    have hst := rstep_ok w r s _ _ vc wh hx.blk hx.wf.f0 hx.wf.f1
    cases hb : stepB s
    · have hE : writeE s k xs.length = 22 := by unfold writeE; rw [hw, if_neg (by simp), if_neg (by rw [hb]; simp)]
      have hS : throughS s k xs = stepS s := by unfold throughS; rw [hw, if_neg (by simp), if_neg (by rw [hb]; simp)]
      rw [hb] at hst
      rw [hE, hS] at EQ
      have HX := Lib.hid hx
      have HP := Lib.hid hP
      have HL := Lib.hid hl
      have HN := Lib.hid hn1
      have HFT := Lib.hid hfit
      have HST := Lib.hid hst
      obtain ⟨L, eL⟩ : ∃ L, L = xs.length := ⟨_, rfl⟩
      rw [← eL] at HFT ⊢
      clear hx hP hl hn hfit hst eQ hr hj hw hb hE hS hxl eL hn1
      go_enter Tryz.func55, Tryz.ntmps55
      go_wp2_with fail
      refine HFT.out.mono ?_
      rintro e w' ⟨rfl, rfl⟩
      go_wp2_with fail
      refine HST.out.mono ?_
      rintro e w2 ⟨rfl, ho2, hb2⟩
      have hrf := rrefuse_ok w2 r (stepS s) _ _ vc wh 22 k hb2
      have HRF := Lib.hid hrf
      have HO2 := Lib.hid ho2
      clear hrf ho2 hb2 HST HFT
      go_wp2_with fail
      refine HRF.out.mono ?_
      rintro e w3 ⟨rfl, ho3, hb3⟩
      have hF : Q (.returned (.int .i64 22)) w3 := by
        rw [EQ.out]
        have hone : OneD w w3 r := ⟨ho3.1.trans HO2.out.1, ho3.2.1.trans HO2.out.2.1, ho3.2.2.1.trans HO2.out.2.2.1, ho3.2.2.2.1.trans HO2.out.2.2.2.1, fun b hb => (ho3.2.2.2.2 b hb).trans (HO2.out.2.2.2.2 b hb)⟩
        have hs := stepS_same s
        obtain ⟨t1, t2⟩ := HX.out.turn HP.out HL.out HN.out hone (s1 := stepS s) (by rw [hs.1]; exact hb3) (stepS_dwf HX.out.wf) hs.1 hs.2.1 hs.2.2.1 hs.2.2.2.1 hs.2.2.2.2
        exact ⟨rfl, t1, P, t2, fun b hb => .inl hb⟩
      have HF := Lib.hid hF
      clear hF ho3 hb3 HRF
      go_wp2_with fail
      first | exact HF.out | (go_ret; exact HF.out)
    · have hE : writeE s k xs.length = 0 := by unfold writeE; rw [hw, if_neg (by simp), if_pos hb]
      have hS : throughS s k xs = thruS (stepS s) k xs := by unfold throughS; rw [hw, if_neg (by simp), if_pos hb, show ((k : Int)).toNat = k by omega]
      rw [hb] at hst
      rw [hE, hS] at EQ
      have hs := stepS_same s
      obtain ⟨s1, es1⟩ : ∃ s1, s1 = stepS s := ⟨_, rfl⟩
      rw [← es1] at EQ hst hs
      have HX := Lib.hid hx
      have HP := Lib.hid hP
      have HL := Lib.hid hl
      have HN := Lib.hid hn
      have HFT := Lib.hid hfit
      have HST := Lib.hid hst
      have HS := Lib.hid hs
      have HR := Lib.hid hr
      have HXL := Lib.hid hxl
      have HK := Lib.hid hk
      have HW1 := Lib.hid (show DWf s1 by rw [es1]; exact stepS_dwf hx.wf)
      obtain ⟨L, eL⟩ : ∃ L, L = xs.length := ⟨_, rfl⟩
      rw [← eL] at HFT ⊢
      have EL := Lib.hid eL
      clear hx hP hl hn hfit hst eQ hr hj hw hb hE hS hxl eL hn1 hs es1
      go_enter Tryz.func55, Tryz.ntmps55
      go_wp2_with fail
      refine HFT.out.mono ?_
      rintro e w' ⟨rfl, rfl⟩
      go_wp2_with fail
      refine HST.out.mono ?_
      rintro e w2 ⟨rfl, ho2, hb2⟩
      have hx1 : RRepX w2 r Bm Bs cm cs vc G s1 C wh := HX.out.cells (by rw [HS.out.1]; exact hb2) (fun b hb => ho2.2.2.2.2 b hb) ho2.2.2.2.1 HW1.out HS.out.1 HS.out.2.1 HS.out.2.2.1 HS.out.2.2.2.1 HS.out.2.2.2.2
      have hon2 : OnlyP P w w2 := ho2.only (HP.out r (.inl rfl))
      have hfg := forget_ok w2 r Bm Bs cm cs vc G s1 C wh k hx1 (by have := HN.out; omega)
      have HX1 := Lib.hid hx1
      have HON2 := Lib.hid hon2
      have HO2 := Lib.hid ho2
      have HFG := Lib.hid hfg
      clear hx1 hon2 ho2 hb2 hfg HST HFT
      go_wp2_with fail
      refine HFG.out.mono ?_
      rintro e w3 ⟨v3, wq, rfl, ew3, hbq, hit⟩
      have hx3 := HX1.out.forgot hbq hit
      rw [← ew3] at hx3
      have hon3 : OnlyP P w2 w3 := by rw [ew3]; exact (OnlyP.ofBelow hbq).set (p := ⟨r, 4, none⟩) (.inl (HP.out r (.inl rfl))) _
      have hvg : ∀ g, v3.ownBlock = some g → w2.heap.size ≤ g ∧ g < w3.heap.size := fun g hg => by
        obtain ⟨hs', _, ho', _⟩ := hit
        have h1 := ho'.lt g hg
        rw [ew3, size_setCell]
        exact ⟨h1.1, h1.2⟩
      have hcp := fun W (hW : W = w3 ∨ W = w3.drew) => rcopy_ok W (.slice A L cp) xs (by
        have h := HR.out.only (HON2.out.then hon3)
        rw [← EL.out] at h
        rcases hW with rfl | rfl
        · exact h
        · exact h) hm
      have c2 : w3.cell? ⟨r, 2, none⟩ = some (.slice (some ⟨Bm, 0, none⟩) s1.nb cm) := hx3.blk.cell 2
      have hcp3 := hcp w3.drew (.inr rfl)
      obtain ⟨NB, eNB⟩ : ∃ NB, NB = s1.nb := ⟨_, rfl⟩
      have hkn : k < NB := by rw [eNB, HS.out.1]; exact hk
      rw [← eNB] at c2
      have ENB := Lib.hid eNB
      have HCP := Lib.hid hcp3
      have HX3 := Lib.hid hx3
      have HON3 := Lib.hid hon3
      have HVG := Lib.hid hvg
      have HSZ : Hid (w2.heap.size ≤ w3.heap.size) := Lib.hid hon3.size
      clear hcp hcp3 hx3 hon3 hvg ew3 hbq hit HFG eNB
      go_wp2_with fail
      go_region_law (first
          | (go_simp; go_at_call 29; refine HCP.out.mono ?_; rintro e w4 ⟨hB, rfl, hhB, hrow, hb4⟩; have HHB := Lib.hid hhB; have HROW := Lib.hid hrow; have HB4 := Lib.hid (below_of_drew hb4); have k2 : w4.cell? ⟨r, 2, none⟩ = some (.slice (some ⟨Bm, 0, none⟩) NB cm) := (cell_of_heap (HB4.out.block r HX3.out.blk.lt) 2).trans c2; obtain ⟨mcur, m1, m2, m3⟩ := HX3.out.med; obtain ⟨u, mu, _⟩ := m3 k (by have h := hkn; rw [ENB.out] at h; exact h); have km : w4.cell? ⟨Bm, k, none⟩ = some u := (cell_of_heap (HB4.out.block Bm m1.lt) k).trans ((m1.cell k).trans mu); have fm : w4.frozen? ⟨Bm, k, none⟩ = false := (m1.below HB4.out m1.lt).free k; clear m1 m2 m3 mu hhB hrow hb4))
      all_goals
        have hsz1 : xs.length = s1.sz := by rw [HS.out.2.1]; exact HXL.out
        have hrw := HROW.out
        rw [hsz1] at hrw
        have hx5 := HX3.out.laidM (k := k) (xs := xs) (by show k < s1.nb; rw [HS.out.1]; exact HK.out) hsz1 HB4.out hrw HHB.out
        rw [hsz1]
        have hon5 : OnlyP P w3 (w4.setCell ⟨Bm, k, none⟩ (.slice (some ⟨hB, 0, none⟩) s1.sz s1.sz)) := (OnlyP.ofBelow HB4.out).set (p := ⟨Bm, k, none⟩) (.inl (HP.out Bm (.inr (.inl rfl)))) _
        have hsz5 : w3.heap.size ≤ hB := HHB.out
        obtain ⟨w5, ew5⟩ : ∃ w5, w5 = w4.setCell ⟨Bm, k, none⟩ (.slice (some ⟨hB, 0, none⟩) s1.sz s1.sz) := ⟨_, rfl⟩
        have hx5' : RRepX w5 r Bm Bs cm cs v3 (fun b => (G b ∨ v3.ownBlock = some b) ∨ b = hB) { s1 with ca := dropC s1.ca k, dur := layD s1.dur k xs } (outC C k) wh := by rw [ew5]; exact hx5
        clear hx5
        have hx5 := hx5'
        clear hx5'
        rw [← ew5] at hon5 ⊢
        have c3 : w5.cell? ⟨r, 3, none⟩ = some (.slice (some ⟨Bs, 0, none⟩) NB cs) := by rw [ENB.out]; exact hx5.blk.cell 3
        obtain ⟨scur, t1, t2, t3⟩ := hx5.spo
        have fs := t1.free k
        have ks : w5.cell? ⟨Bs, k, none⟩ = some (.bool (s1.sp k)) := (t1.cell k).trans (t3 k (by rw [← ENB.out]; exact hkn))
        have hwf := hx5.wf
        have hx6 := hx5.spoil k false (laidS s1 k xs) ⟨hwf.nb1, hwf.nb2, hwf.sz0, hwf.sz1, hwf.dl, hwf.cl, hwf.cn, hwf.f0, hwf.f1⟩ rfl rfl rfl (fun i => rfl) rfl rfl rfl rfl ⟨rfl, rfl, rfl, rfl⟩
        have hon6 : OnlyP P w3 (w5.setCell ⟨Bs, k, none⟩ (.bool false)) := hon5.set (p := ⟨Bs, k, none⟩) (.inl (HP.out Bs (.inr (.inr (.inl rfl))))) _
        have e9 : (w5.setCell ⟨Bs, k, none⟩ (.bool false)).cell? ⟨r, 9, none⟩ = some (.int .i64 s1.c2) := hx6.blk.cell 9
        have f9 := hx6.blk.free 9
        obtain ⟨y, ey⟩ : ∃ y, y = IntKind.i64.wrap (s1.c2 + 1) := ⟨_, rfl⟩
        have y1 : IntKind.i64.wrap (s1.c2 + 1) = y := ey.symm
        have hb7 : Blk ((w5.setCell ⟨Bs, k, none⟩ (.bool false)).setCell ⟨r, 9, none⟩ (.int .i64 y)) r 74 (rArr (thruS s1 k xs) (.slice (some ⟨Bm, 0, none⟩) s1.nb cm) (.slice (some ⟨Bs, 0, none⟩) s1.nb cs) v3 wh) := by rw [ey]; exact hx6.blk.set 9 _
        have hfi := fine_ok _ r _ _ _ _ wh hb7
        have E9 := Lib.hid e9
        have F9 := Lib.hid f9
        have HX6 := Lib.hid hx6
        have HON6 := Lib.hid hon6
        have HFI := Lib.hid hfi
        have HHS := Lib.hid hsz5
        clear hsz1 hrw hx5 hon5 hsz5 t1 t2 t3 hwf hx6 hon6 hb7 hfi e9 f9 HROW HB4 HHB HCP k2 km fm c2 ey ew5
        go_upto_region 10 with (fail)
        have e9 := E9.out
        have f9 := F9.out
        go_wp2_with fail
        refine HFI.out.mono ?_
        rintro e w7 ⟨rfl, ho7, hb7⟩
        have hF : Q (.returned (.int .i64 0)) w7 := by
          rw [EQ.out]
          have hone : OneD (w5.setCell ⟨Bs, k, none⟩ (.bool false)) w7 r := ⟨ho7.1, ho7.2.1, ho7.2.2.1, ho7.2.2.2.1.trans (size_setCell _ _ _), fun b hb => (ho7.2.2.2.2 b hb).trans (Below.heap_setCell (w5.setCell ⟨Bs, k, none⟩ (.bool false)) ⟨r, 9, none⟩ _ b hb)⟩
          have hwf := HX6.out.wf
          have hx7 := HX6.out.cells (w1 := w7) (s1 := thruS s1 k xs) (wh1 := -1) hb7 (fun b hb => hone.2.2.2.2 b hb) hone.2.2.2.1 ⟨hwf.nb1, hwf.nb2, hwf.sz0, hwf.sz1, hwf.dl, hwf.cl, hwf.cn, hwf.f0, hwf.f1⟩ rfl rfl rfl rfl rfl
          have hl2 : w.heap.size ≤ w2.heap.size := HON2.out.size
          have hl3 : w2.heap.size ≤ w3.heap.size := HSZ.out
          have hl7 : w3.heap.size ≤ w7.heap.size := by rw [hone.2.2.2.1]; exact HON6.out.size
          refine ⟨rfl, ((HON2.out.then HON3.out).then HON6.out).then (hone.only (HP.out r (.inl rfl))), fun b => P b ∨ v3.ownBlock = some b ∨ b = hB, ⟨Bm, Bs, cm, cs, _, _, _, hx7, ?_, ?_, ?_⟩, ?_⟩
          · rintro b (rfl | rfl | rfl | ((hb | hb) | rfl))
            · exact .inl (HP.out _ (.inl rfl))
            · exact .inl (HP.out _ (.inr (.inl rfl)))
            · exact .inl (HP.out _ (.inr (.inr (.inl rfl))))
            · exact .inl (HP.out b (.inr (.inr (.inr hb))))
            · exact .inr (.inl hb)
            · exact .inr (.inr rfl)
          · rintro b (hb | hb | rfl)
            · have := HL.out b hb; omega
            · have := (HVG.out b hb).2; omega
            · exact (hx7.apart _ (.inr rfl)).1
          · exact Nat.le_trans (outC_len _ _) HN.out
          · rintro b (hb | hb | rfl)
            · exact .inl hb
            · exact .inr (by have := (HVG.out b hb).1; omega)
            · exact .inr (by have := HHS.out; omega)
        have HF := Lib.hid hF
        clear hF ho7 hb7 HFI
        go_wp2_with fail
        first | exact HF.out | (go_ret; exact HF.out)
  · have hE : writeE s j xs.length = wrE s j xs.length := by unfold writeE; rw [if_pos hw]
    have hS : throughS s j xs = s := by unfold throughS; rw [if_pos hw]
    rw [hE, hS] at EQ
    obtain ⟨x, ex⟩ : ∃ x, x = wrE s j xs.length := ⟨_, rfl⟩
    rw [← ex] at EQ hfit hw
    have t0 : (x == 0) = false := by simp; exact hw
    have HX := Lib.hid hx
    have HP := Lib.hid hP
    have HL := Lib.hid hl
    have HN := Lib.hid hn1
    have HFT := Lib.hid hfit
    have HW0 := Lib.hid hw
    have HRF := Lib.hid (rrefuse_ok w r s _ _ vc wh x j hx.blk)
    obtain ⟨L, eL⟩ : ∃ L, L = xs.length := ⟨_, rfl⟩
    rw [← eL] at HFT ⊢
    clear hx hP hl hn hfit eQ hr hw hE hS ex eL hn1
    go_enter Tryz.func55, Tryz.ntmps55
    go_wp2_with fail
    refine HFT.out.mono ?_
    rintro e w' ⟨rfl, rfl⟩
    go_wp2_with fail
    refine HRF.out.mono ?_
    rintro e w3 ⟨rfl, ho3, hb3⟩
    have hF : Q (.returned (.int .i64 x)) w3 := by
      rw [EQ.out]
      obtain ⟨t1, t2⟩ := HX.out.turn HP.out HL.out HN.out ho3 hb3 HX.out.wf rfl rfl rfl rfl rfl
      refine ⟨rfl, t1, P, ?_, fun b hb => .inl hb⟩
      rw [show trB x j = j by unfold trB; rw [if_neg HW0.out]]; exact t2
    have HF := Lib.hid hF
    clear hF ho3 hb3 HRF
    go_wp2_with fail
    first | exact HF.out | (go_ret; exact HF.out)
end Go.Proofs.YtigfcoibbmndpaaGreat
/- One step: Write, Through. Printed by wip/tools/gen_lx.py. -/
namespace Go.Proofs.YtigfcoibbmndpaaGreat
open Go.RowKit
open Go.ChangeMaps
set_option linter.unusedVariables false
set_option linter.unusedSimpArgs false
set_option maxHeartbeats 4000000 in
set_option maxRecDepth 100000 in
theorem lay_2 (X : Nat → Prop) (w : World) (q d : Nat) (s : DSt) (O : Nat → Prop) (r : Nat) (P : Nat → Prop) (wh : Int) (n : Nat) (k : BkV) (nB : Nat) (o : OpV) (h : PairA X w q d s O r s P wh n k nB) (hr : RdN X w o.dv o.data) (hI1 : I64 o.blk) (hI2 : I64 o.cnt) (hb : BytesL o.data) (hl : o.data.length ≤ 1048576) (hn : n ≤ 10000000000) (hk : o.kind = 2) :
    Calls Tryz.prog 25 #[.pointer (some ⟨q, 0, none⟩), o.agg] w (StepQ X w q (n + 8193)) := by
  obtain ⟨Q, eQ⟩ : ∃ Q, Q = StepQ X w q (n + 8193) := ⟨_, rfl⟩
  rw [← eQ]
  have EQ := Lib.hid eQ
  obtain ⟨kind, blk, cnt, dv, data⟩ := o
  dsimp only at hk hr hI1 hI2 hb hl
  subst hk
  obtain ⟨A, cp, rfl⟩ := hr.1.slice
  simp only [OpV.agg]
  obtain ⟨L, eL⟩ : ∃ L, L = data.length := ⟨_, rfl⟩
  rw [← eL] at hl hr ⊢
  have HR := Lib.hid hr
  have EL := Lib.hid eL
  have HBY := Lib.hid hb
  have H0 := Lib.hid h
  have HXW := Lib.hid h.lts
  clear eQ hr h hb eL
  go_enter Tryz.func25, Tryz.ntmps25
  go_upto_region 1 with (fail)
  obtain ⟨wb, ewb⟩ : ∃ wb, wb = w.alloc (.cells #[.int .i64 2, .int .i64 blk, .int .i64 cnt, .slice A L cp] 40) := ⟨_, rfl⟩
  have hbw : Below w.heap.size w wb := by rw [ewb]; exact (Below.refl _ _).alloc (Nat.le_refl _) _
  obtain ⟨B0, eB0⟩ : ∃ B0, B0 = w.heap.size := ⟨_, rfl⟩
  have hbox : Blk wb B0 40 #[.int .i64 2, .int .i64 blk, .int .i64 cnt, .slice A L cp] := by rw [ewb, eB0]; exact Blk.new _ _ _
  have hx0 : ¬ X B0 := fun h => by have := HXW.out B0 h; omega
  have hm1 := (H0.out.keep hbw).start
  rw [← ewb, ← eB0]
  have HBW := Lib.hid hbw
  have HBOX := Lib.hid hbox
  have HX0 := Lib.hid hx0
  have b0 : wb.cell? ⟨B0, 0, none⟩ = some (.int .i64 2) := hbox.cell 0
  have b1 : wb.cell? ⟨B0, 1, none⟩ = some (.int .i64 blk) := hbox.cell 1
  have b2 : wb.cell? ⟨B0, 2, none⟩ = some (.int .i64 cnt) := hbox.cell 2
  have b3 : wb.cell? ⟨B0, 3, none⟩ = some (.slice A L cp) := hbox.cell 3
  obtain ⟨c0, c1, c2⟩ := hm1.cells
  have HM1 := Lib.hid hm1
  clear hbw hbox hx0 hm1 ewb eB0
  obtain ⟨H, eH⟩ : ∃ x, x = wb.heap.size := ⟨_, rfl⟩
  have hhd := hand_ok (.slice A L cp) data wb (HR.out.1.below HBW.out) (by rw [← EL.out]; omega)
  have HHD := Lib.hid hhd
  clear hhd
  go_wp2_with fail
  refine HHD.out.mono ?_
  rintro e wz ⟨rfl, hbz, hrz⟩
  rw [← EL.out, ← eH] at hrz ⊢
  have hHx : ¬ X H := fun h => by have := HXW.out H h; have h2 : w.heap.size ≤ wb.heap.size := HBW.out.size; omega
  have hmz := (H0.out.keep (HBW.out.trans (hbz.mono HBW.out.size))).start
  have hHlt : H < wz.heap.size := hrz.lt
  have hbxz := HBOX.out.below hbz HBOX.out.lt
  have HBZ := Lib.hid hbz
  have HRZ := Lib.hid hrz
  have HHX := Lib.hid hHx
  have HHL := Lib.hid hHlt
  have HBXZ := Lib.hid hbxz
  have HRDZ := Lib.hid (HR.out.below (HBW.out.trans (hbz.mono HBW.out.size)))
  have HEH := Lib.hid eH
  have HALEN := Lib.hid (show A = none → L = 0 from fun hA => by
    rcases HR.out.1 with ⟨h9, _⟩ | ⟨b, off, c', e, _⟩
    · rw [EL.out, h9]; rfl
    · rw [hA] at e; simp at e)
  clear hbz hrz hHx hHlt hbxz eH HHD b0 b1 b2 b3 c0 c1 c2
  obtain ⟨c0, c1, c2⟩ := hmz.cells
  have hbx := hmz.box HBXZ.out HX0.out
  have b0 := hbx.cell 0
  have b1 := hbx.cell 1
  have b2 := hbx.cell 2
  have b3 := hbx.cell 3
  simp only [List.getElem?_toArray, List.getElem?_cons_zero, List.getElem?_cons_succ] at b0 b1 b2 b3
  have HMZ := Lib.hid hmz
  clear hbx hmz
  have harg := Lib.hid (fun W => arg_ok H L cp A W (by omega))
  obtain ⟨av, eav⟩ : ∃ x, x = argV H (.slice A L cp) L := ⟨_, rfl⟩
  rw [← eav] at harg
  have hrda : Rd .u8 wz av data := by
    have h9 := argV_rd (g := H) (v := .slice A L cp) (zs := data) HRDZ.out.1 (by rw [← EL.out]; exact HRZ.out)
    rw [← EL.out, ← eav] at h9; exact h9
  have hrno : RdN O wz av data := ⟨hrda, fun b off m c hv hm => by
    have hbH : b = H := argV_blk (eav.symm.trans hv)
    rw [hbH]; exact (HMZ.out.notO HHL.out HHX.out).1⟩
  obtain ⟨Aa, ca, hav⟩ := argV_form H L cp A HALEN.out
  have hav2 : av = .slice Aa L ca := eav.trans hav
  clear eav hav
  subst hav2
  have HRNO := Lib.hid hrno
  clear hrda hrno
  obtain ⟨e0, ee0⟩ : ∃ x, x = writeE s blk data.length := ⟨_, rfl⟩
  obtain ⟨s2, es2⟩ : ∃ x, x = writeS s blk data := ⟨_, rfl⟩
  obtain ⟨T, eT⟩ : ∃ x, x = trB e0 blk := ⟨_, rfl⟩
  have hcr := Lib.hid (write_ok O wz.drew d s blk (.slice Aa L ca) data (HMZ.out.db.drewN 1) HRNO.out (by have := HMZ.out.cap blk.toNat; omega))
  rw [← es2, ← ee0] at hcr
  have EE0 := Lib.hid ee0
  have ES2 := Lib.hid es2
  have ET := Lib.hid eT
  clear ee0 es2 eT
  go_upto_region 5 with (fail)
  go_cut [6] from 17 to 27 (fun er wx => AnsE wz.heap.size wx er e0 blk ∧ DStep O wz wx d s2)
  case first =>
    go_region_law (first
      | (go_simp; go_at_call 18; refine (harg.out _).mono ?_; rintro e w' ⟨rfl, rfl⟩)
      | (go_simp; go_at_call 52; refine hcr.out.mono ?_; rintro e w2 ⟨er, rfl, her, hst2⟩; have HER := Lib.hid her; have HST2 := Lib.hid hst2; clear her hst2))
    all_goals go_wp2_with fail
    all_goals go_meet
    all_goals exact ⟨HER.out, ⟨HST2.out.1.os, HST2.out.1.tape, HST2.out.1.output, HST2.out.1.size, HST2.out.1.block⟩, HST2.out.2⟩
  case rest =>
  obtain ⟨her, hst2⟩ := hcut
  obtain ⟨w2, rfl⟩ : ∃ w2, w2 = wc := ⟨_, rfl⟩
  obtain ⟨er, rfl⟩ : ∃ er, er = u6 := ⟨_, rfl⟩
  obtain ⟨O2, hm2⟩ := HMZ.out.dstep hst2
  have HER := Lib.hid her
  have HPW := Lib.hid (fun b hb => HMZ.out.rb.lt (b := b) hb)
  clear hcr harg hst2 her b0 b1 b2 b3 c0 c1 c2
  obtain ⟨c0, c1, c2⟩ := hm2.cells
  have hbx := hm2.box HBXZ.out HX0.out
  have b0 := hbx.cell 0
  have b1 := hbx.cell 1
  have b2 := hbx.cell 2
  have b3 := hbx.cell 3
  simp only [List.getElem?_toArray, List.getElem?_cons_zero, List.getElem?_cons_succ] at b0 b1 b2 b3
  have HM2 := Lib.hid hm2
  clear hbx hm2
  go_wp2_with fail
  obtain ⟨wf, ewf⟩ : ∃ W, W = w2.drew := ⟨_, rfl⟩
  have hmwf := HM2.out.drewN 1
  rw [show w2.drewN 1 = wf from ewf.symm] at hmwf
  go_still_tail 8, (by kernel_rfl)
  change wpList _ _ _ _ _ w2.drew
  rw [← ewf]
  have hef : AnsE wz.heap.size wf er e0 blk := by rw [ewf]; exact HER.out.below ⟨rfl, rfl, rfl, Nat.le_refl _, fun _ _ => rfl⟩
  have HEF := Lib.hid hef
  clear hef
  clear ewf b0 b1 b2 b3 c0 c1 c2
  obtain ⟨c0, c1, c2⟩ := hmwf.cells
  have hbx := hmwf.box HBXZ.out HX0.out
  have b0 := hbx.cell 0
  have b1 := hbx.cell 1
  have b2 := hbx.cell 2
  have b3 := hbx.cell 3
  simp only [List.getElem?_toArray, List.getElem?_cons_zero, List.getElem?_cons_succ] at b0 b1 b2 b3
  have HMwf := Lib.hid hmwf
  clear hbx hmwf
  have hw2 := rwrite_ok P wf r s wh blk n (.slice A L cp) data HMwf.out.rb (HMwf.out.rdP HRDZ.out).1 (by rw [← EL.out]; omega) (by omega)
  rw [← ES2.out, ← EE0.out] at hw2
  have HW2 := Lib.hid hw2
  clear hw2
  go_wp2_with fail
  refine HW2.out.mono ?_
  rintro e w4 ⟨rfl, hst4⟩
  rw [← ET.out] at hst4
  obtain ⟨P2, hm4⟩ := HMwf.out.rstep (n2 := n + 2) (by omega) (hst4.up (by omega))
  have her4 : AnsE wz.heap.size w4 er e0 blk := HEF.out.only hst4.1 (fun b h1 h2 h3 => by have := HPW.out b h3; omega)
  have HER4 := Lib.hid her4
  clear HW2 her4 hst4 b0 b1 b2 b3 c0 c1 c2
  obtain ⟨c0, c1, c2⟩ := hm4.cells
  have hbx := hm4.box HBXZ.out HX0.out
  have b0 := hbx.cell 0
  have b1 := hbx.cell 1
  have b2 := hbx.cell 2
  have b3 := hbx.cell 3
  simp only [List.getElem?_toArray, List.getElem?_cons_zero, List.getElem?_cons_succ] at b0 b1 b2 b3
  have HM4 := Lib.hid hm4
  clear hbx hm4
  have htr := Lib.hid (trouble_ok wz.heap.size w4 er e0 blk HER4.out)
  rw [← ET.out] at htr
  go_wp2_with fail
  refine htr.out.mono ?_
  rintro e w5 ⟨rfl, m5, rfl⟩
  obtain ⟨w5, e5⟩ : ∃ x, x = w4.drewN m5 := ⟨_, rfl⟩
  have hm5 := HM4.out.drewN m5
  rw [← e5] at hm5 ⊢
  have kwh := hm5.wh
  clear htr e5 b0 b1 b2 b3 c0 c1 c2
  have hrow5 : RowA .u8 5 w5 H (L + 6) (handF data 6) := HRZ.out.keep (hm5.only.block H HHL.out HHX.out)
  have hut := untouched_ok H (.slice A L cp) data w5 (hm5.rdN HRDZ.out) (by rw [← EL.out]; omega) (by rw [← EL.out]; exact hrow5)
  rw [← EL.out] at hut
  have HUT := Lib.hid hut
  have HROW5 := Lib.hid hrow5
  clear hut hrow5
  obtain ⟨c0, c1, c2⟩ := hm5.cells
  have hbx := hm5.box HBXZ.out HX0.out
  have b0 := hbx.cell 0
  have b1 := hbx.cell 1
  have b2 := hbx.cell 2
  have b3 := hbx.cell 3
  simp only [List.getElem?_toArray, List.getElem?_cons_zero, List.getElem?_cons_succ] at b0 b1 b2 b3
  have HM5 := Lib.hid hm5
  clear hbx hm5
  go_wp2_with fail
  refine HUT.out.mono ?_
  rintro e w6 ⟨m6, rfl, rfl⟩
  clear kwh
  obtain ⟨w6, e6⟩ : ∃ x, x = w5.drewN m6 := ⟨_, rfl⟩
  have hm6 := HM5.out.drewN m6
  rw [← e6] at hm6 ⊢
  have hrow6 : RowA .u8 5 w6 H (L + 6) (handF data 6) := by rw [e6]; exact HROW5.out
  obtain ⟨xs6, hown6⟩ := row_own hrow6 (by unfold maxLen; omega)
  obtain ⟨_, X6, ha6, _⟩ := id hm6
  obtain ⟨Vs6, hvs6⟩ := ha6.row
  have hnb6 := ha6.hnB
  have hbb := bbytes_ok w6 q d r false k nB Vs6 _ (L + 6) xs6 ha6.blk ha6.lt hvs6 hown6 (by omega) (by omega)
  have HBB := Lib.hid hbb
  have HM6 := Lib.hid hm6
  have HNB6 := Lib.hid hnb6
  clear hbb hm6 hrow6 hown6 ha6 hvs6 e6 hnb6 b0 b1 b2 b3 c0 c1 c2
  obtain ⟨c0, c1, c2⟩ := HM6.out.cells
  have hbx := HM6.out.box HBXZ.out HX0.out
  have b0 := hbx.cell 0
  have b1 := hbx.cell 1
  have b2 := hbx.cell 2
  have b3 := hbx.cell 3
  simp only [List.getElem?_toArray, List.getElem?_cons_zero, List.getElem?_cons_succ] at b0 b1 b2 b3
  clear hbx HUT
  go_wp2_with fail
  refine HBB.out.mono ?_
  intro e w7 hq7
  have hn6 := (HM6.out.notO HHL.out HHX.out)
  obtain ⟨rfl, k7, hm7⟩ := (HM6.out.base HBZ.out).book (by have := HMwf.out.at'; obtain ⟨_, hz, _⟩ := this; have := hz.hnB; omega) (fun g hg => by
    simp only [Value.ownBlock, Option.some.injEq] at hg
    subst hg
    exact ⟨by rw [HEH.out]; exact Nat.le_refl _, hn6.1, hn6.2.1, hn6.2.2.1, hn6.2.2.2⟩) hq7
  have HF := Lib.hid (show Q (.returned (.bool true)) w7 by rw [EQ.out]; exact hm7.out HBW.out (by omega))
  have q72 := hm7.cells.2.2
  clear hq7 hn6 hm7 HBB
  go_wp2_with fail
  first | exact HF.out | (go_ret; exact HF.out)
set_option maxHeartbeats 4000000 in
set_option maxRecDepth 100000 in
theorem lay_3 (X : Nat → Prop) (w : World) (q d : Nat) (s : DSt) (O : Nat → Prop) (r : Nat) (P : Nat → Prop) (wh : Int) (n : Nat) (k : BkV) (nB : Nat) (o : OpV) (h : PairA X w q d s O r s P wh n k nB) (hr : RdN X w o.dv o.data) (hI1 : I64 o.blk) (hI2 : I64 o.cnt) (hb : BytesL o.data) (hl : o.data.length ≤ 1048576) (hn : n ≤ 10000000000) (hk : o.kind = 3) :
    Calls Tryz.prog 25 #[.pointer (some ⟨q, 0, none⟩), o.agg] w (StepQ X w q (n + 8193)) := by
  obtain ⟨Q, eQ⟩ : ∃ Q, Q = StepQ X w q (n + 8193) := ⟨_, rfl⟩
  rw [← eQ]
  have EQ := Lib.hid eQ
  obtain ⟨kind, blk, cnt, dv, data⟩ := o
  dsimp only at hk hr hI1 hI2 hb hl
  subst hk
  obtain ⟨A, cp, rfl⟩ := hr.1.slice
  simp only [OpV.agg]
  obtain ⟨L, eL⟩ : ∃ L, L = data.length := ⟨_, rfl⟩
  rw [← eL] at hl hr ⊢
  have HR := Lib.hid hr
  have EL := Lib.hid eL
  have HBY := Lib.hid hb
  have H0 := Lib.hid h
  have HXW := Lib.hid h.lts
  clear eQ hr h hb eL
  go_enter Tryz.func25, Tryz.ntmps25
  go_upto_region 1 with (fail)
  obtain ⟨wb, ewb⟩ : ∃ wb, wb = w.alloc (.cells #[.int .i64 3, .int .i64 blk, .int .i64 cnt, .slice A L cp] 40) := ⟨_, rfl⟩
  have hbw : Below w.heap.size w wb := by rw [ewb]; exact (Below.refl _ _).alloc (Nat.le_refl _) _
  obtain ⟨B0, eB0⟩ : ∃ B0, B0 = w.heap.size := ⟨_, rfl⟩
  have hbox : Blk wb B0 40 #[.int .i64 3, .int .i64 blk, .int .i64 cnt, .slice A L cp] := by rw [ewb, eB0]; exact Blk.new _ _ _
  have hx0 : ¬ X B0 := fun h => by have := HXW.out B0 h; omega
  have hm1 := (H0.out.keep hbw).start
  rw [← ewb, ← eB0]
  have HBW := Lib.hid hbw
  have HBOX := Lib.hid hbox
  have HX0 := Lib.hid hx0
  have b0 : wb.cell? ⟨B0, 0, none⟩ = some (.int .i64 3) := hbox.cell 0
  have b1 : wb.cell? ⟨B0, 1, none⟩ = some (.int .i64 blk) := hbox.cell 1
  have b2 : wb.cell? ⟨B0, 2, none⟩ = some (.int .i64 cnt) := hbox.cell 2
  have b3 : wb.cell? ⟨B0, 3, none⟩ = some (.slice A L cp) := hbox.cell 3
  obtain ⟨c0, c1, c2⟩ := hm1.cells
  have HM1 := Lib.hid hm1
  clear hbw hbox hx0 hm1 ewb eB0
  obtain ⟨H, eH⟩ : ∃ x, x = wb.heap.size := ⟨_, rfl⟩
  have hhd := hand_ok (.slice A L cp) data wb (HR.out.1.below HBW.out) (by rw [← EL.out]; omega)
  have HHD := Lib.hid hhd
  clear hhd
  go_wp2_with fail
  refine HHD.out.mono ?_
  rintro e wz ⟨rfl, hbz, hrz⟩
  rw [← EL.out, ← eH] at hrz ⊢
  have hHx : ¬ X H := fun h => by have := HXW.out H h; have h2 : w.heap.size ≤ wb.heap.size := HBW.out.size; omega
  have hmz := (H0.out.keep (HBW.out.trans (hbz.mono HBW.out.size))).start
  have hHlt : H < wz.heap.size := hrz.lt
  have hbxz := HBOX.out.below hbz HBOX.out.lt
  have HBZ := Lib.hid hbz
  have HRZ := Lib.hid hrz
  have HHX := Lib.hid hHx
  have HHL := Lib.hid hHlt
  have HBXZ := Lib.hid hbxz
  have HRDZ := Lib.hid (HR.out.below (HBW.out.trans (hbz.mono HBW.out.size)))
  have HEH := Lib.hid eH
  have HALEN := Lib.hid (show A = none → L = 0 from fun hA => by
    rcases HR.out.1 with ⟨h9, _⟩ | ⟨b, off, c', e, _⟩
    · rw [EL.out, h9]; rfl
    · rw [hA] at e; simp at e)
  clear hbz hrz hHx hHlt hbxz eH HHD b0 b1 b2 b3 c0 c1 c2
  obtain ⟨c0, c1, c2⟩ := hmz.cells
  have hbx := hmz.box HBXZ.out HX0.out
  have b0 := hbx.cell 0
  have b1 := hbx.cell 1
  have b2 := hbx.cell 2
  have b3 := hbx.cell 3
  simp only [List.getElem?_toArray, List.getElem?_cons_zero, List.getElem?_cons_succ] at b0 b1 b2 b3
  have HMZ := Lib.hid hmz
  clear hbx hmz
  have harg := Lib.hid (fun W => arg_ok H L cp A W (by omega))
  obtain ⟨av, eav⟩ : ∃ x, x = argV H (.slice A L cp) L := ⟨_, rfl⟩
  rw [← eav] at harg
  have hrda : Rd .u8 wz av data := by
    have h9 := argV_rd (g := H) (v := .slice A L cp) (zs := data) HRDZ.out.1 (by rw [← EL.out]; exact HRZ.out)
    rw [← EL.out, ← eav] at h9; exact h9
  have hrno : RdN O wz av data := ⟨hrda, fun b off m c hv hm => by
    have hbH : b = H := argV_blk (eav.symm.trans hv)
    rw [hbH]; exact (HMZ.out.notO HHL.out HHX.out).1⟩
  obtain ⟨Aa, ca, hav⟩ := argV_form H L cp A HALEN.out
  have hav2 : av = .slice Aa L ca := eav.trans hav
  clear eav hav
  subst hav2
  have HRNO := Lib.hid hrno
  clear hrda hrno
  obtain ⟨e0, ee0⟩ : ∃ x, x = writeE s blk data.length := ⟨_, rfl⟩
  obtain ⟨s2, es2⟩ : ∃ x, x = throughS s blk data := ⟨_, rfl⟩
  obtain ⟨T, eT⟩ : ∃ x, x = trB e0 blk := ⟨_, rfl⟩
  have hcr := Lib.hid (through_ok O wz.drew d s blk (.slice Aa L ca) data (HMZ.out.db.drewN 1) HRNO.out)
  rw [← es2, ← ee0] at hcr
  have EE0 := Lib.hid ee0
  have ES2 := Lib.hid es2
  have ET := Lib.hid eT
  clear ee0 es2 eT
  go_upto_region 7 with (fail)
  go_cut [6] from 37 to 47 (fun er wx => AnsE wz.heap.size wx er e0 blk ∧ DStep O wz wx d s2)
  case first =>
    go_region_law (first
      | (go_simp; go_at_call 18; refine (harg.out _).mono ?_; rintro e w' ⟨rfl, rfl⟩)
      | (go_simp; go_at_call 54; refine hcr.out.mono ?_; rintro e w2 ⟨er, rfl, her, hst2⟩; have HER := Lib.hid her; have HST2 := Lib.hid hst2; clear her hst2))
    all_goals go_wp2_with fail
    all_goals go_meet
    all_goals exact ⟨HER.out, ⟨HST2.out.1.os, HST2.out.1.tape, HST2.out.1.output, HST2.out.1.size, HST2.out.1.block⟩, HST2.out.2⟩
  case rest =>
  obtain ⟨her, hst2⟩ := hcut
  obtain ⟨w2, rfl⟩ : ∃ w2, w2 = wc := ⟨_, rfl⟩
  obtain ⟨er, rfl⟩ : ∃ er, er = u6 := ⟨_, rfl⟩
  obtain ⟨O2, hm2⟩ := HMZ.out.dstep hst2
  have HER := Lib.hid her
  have HPW := Lib.hid (fun b hb => HMZ.out.rb.lt (b := b) hb)
  clear hcr harg hst2 her b0 b1 b2 b3 c0 c1 c2
  obtain ⟨c0, c1, c2⟩ := hm2.cells
  have hbx := hm2.box HBXZ.out HX0.out
  have b0 := hbx.cell 0
  have b1 := hbx.cell 1
  have b2 := hbx.cell 2
  have b3 := hbx.cell 3
  simp only [List.getElem?_toArray, List.getElem?_cons_zero, List.getElem?_cons_succ] at b0 b1 b2 b3
  have HM2 := Lib.hid hm2
  clear hbx hm2
  go_wp2_with fail
  obtain ⟨wf, ewf⟩ : ∃ W, W = w2.drew := ⟨_, rfl⟩
  have hmwf := HM2.out.drewN 1
  rw [show w2.drewN 1 = wf from ewf.symm] at hmwf
  go_still_tail 8, (by kernel_rfl)
  change wpList _ _ _ _ _ w2.drew
  rw [← ewf]
  have hef : AnsE wz.heap.size wf er e0 blk := by rw [ewf]; exact HER.out.below ⟨rfl, rfl, rfl, Nat.le_refl _, fun _ _ => rfl⟩
  have HEF := Lib.hid hef
  clear hef
  clear ewf b0 b1 b2 b3 c0 c1 c2
  obtain ⟨c0, c1, c2⟩ := hmwf.cells
  have hbx := hmwf.box HBXZ.out HX0.out
  have b0 := hbx.cell 0
  have b1 := hbx.cell 1
  have b2 := hbx.cell 2
  have b3 := hbx.cell 3
  simp only [List.getElem?_toArray, List.getElem?_cons_zero, List.getElem?_cons_succ] at b0 b1 b2 b3
  have HMwf := Lib.hid hmwf
  clear hbx hmwf
  have hw2 := rthrough_ok P wf r s wh blk n (.slice A L cp) data HMwf.out.rb (HMwf.out.rdP HRDZ.out).1 (by rw [← EL.out]; omega) (by omega)
  rw [← ES2.out, ← EE0.out] at hw2
  have HW2 := Lib.hid hw2
  clear hw2
  go_wp2_with fail
  refine HW2.out.mono ?_
  rintro e w4 ⟨rfl, hst4⟩
  rw [← ET.out] at hst4
  obtain ⟨P2, hm4⟩ := HMwf.out.rstep (n2 := n + 2) (by omega) (hst4.up (by omega))
  have her4 : AnsE wz.heap.size w4 er e0 blk := HEF.out.only hst4.1 (fun b h1 h2 h3 => by have := HPW.out b h3; omega)
  have HER4 := Lib.hid her4
  clear HW2 her4 hst4 b0 b1 b2 b3 c0 c1 c2
  obtain ⟨c0, c1, c2⟩ := hm4.cells
  have hbx := hm4.box HBXZ.out HX0.out
  have b0 := hbx.cell 0
  have b1 := hbx.cell 1
  have b2 := hbx.cell 2
  have b3 := hbx.cell 3
  simp only [List.getElem?_toArray, List.getElem?_cons_zero, List.getElem?_cons_succ] at b0 b1 b2 b3
  have HM4 := Lib.hid hm4
  clear hbx hm4
  have htr := Lib.hid (trouble_ok wz.heap.size w4 er e0 blk HER4.out)
  rw [← ET.out] at htr
  go_wp2_with fail
  refine htr.out.mono ?_
  rintro e w5 ⟨rfl, m5, rfl⟩
  obtain ⟨w5, e5⟩ : ∃ x, x = w4.drewN m5 := ⟨_, rfl⟩
  have hm5 := HM4.out.drewN m5
  rw [← e5] at hm5 ⊢
  have kwh := hm5.wh
  clear htr e5 b0 b1 b2 b3 c0 c1 c2
  have hrow5 : RowA .u8 5 w5 H (L + 6) (handF data 6) := HRZ.out.keep (hm5.only.block H HHL.out HHX.out)
  have hut := untouched_ok H (.slice A L cp) data w5 (hm5.rdN HRDZ.out) (by rw [← EL.out]; omega) (by rw [← EL.out]; exact hrow5)
  rw [← EL.out] at hut
  have HUT := Lib.hid hut
  have HROW5 := Lib.hid hrow5
  clear hut hrow5
  obtain ⟨c0, c1, c2⟩ := hm5.cells
  have hbx := hm5.box HBXZ.out HX0.out
  have b0 := hbx.cell 0
  have b1 := hbx.cell 1
  have b2 := hbx.cell 2
  have b3 := hbx.cell 3
  simp only [List.getElem?_toArray, List.getElem?_cons_zero, List.getElem?_cons_succ] at b0 b1 b2 b3
  have HM5 := Lib.hid hm5
  clear hbx hm5
  go_wp2_with fail
  refine HUT.out.mono ?_
  rintro e w6 ⟨m6, rfl, rfl⟩
  clear kwh
  obtain ⟨w6, e6⟩ : ∃ x, x = w5.drewN m6 := ⟨_, rfl⟩
  have hm6 := HM5.out.drewN m6
  rw [← e6] at hm6 ⊢
  have hrow6 : RowA .u8 5 w6 H (L + 6) (handF data 6) := by rw [e6]; exact HROW5.out
  obtain ⟨xs6, hown6⟩ := row_own hrow6 (by unfold maxLen; omega)
  obtain ⟨_, X6, ha6, _⟩ := id hm6
  obtain ⟨Vs6, hvs6⟩ := ha6.row
  have hnb6 := ha6.hnB
  have hbb := bbytes_ok w6 q d r false k nB Vs6 _ (L + 6) xs6 ha6.blk ha6.lt hvs6 hown6 (by omega) (by omega)
  have HBB := Lib.hid hbb
  have HM6 := Lib.hid hm6
  have HNB6 := Lib.hid hnb6
  clear hbb hm6 hrow6 hown6 ha6 hvs6 e6 hnb6 b0 b1 b2 b3 c0 c1 c2
  obtain ⟨c0, c1, c2⟩ := HM6.out.cells
  have hbx := HM6.out.box HBXZ.out HX0.out
  have b0 := hbx.cell 0
  have b1 := hbx.cell 1
  have b2 := hbx.cell 2
  have b3 := hbx.cell 3
  simp only [List.getElem?_toArray, List.getElem?_cons_zero, List.getElem?_cons_succ] at b0 b1 b2 b3
  clear hbx HUT
  go_wp2_with fail
  refine HBB.out.mono ?_
  intro e w7 hq7
  have hn6 := (HM6.out.notO HHL.out HHX.out)
  obtain ⟨rfl, k7, hm7⟩ := (HM6.out.base HBZ.out).book (by have := HMwf.out.at'; obtain ⟨_, hz, _⟩ := this; have := hz.hnB; omega) (fun g hg => by
    simp only [Value.ownBlock, Option.some.injEq] at hg
    subst hg
    exact ⟨by rw [HEH.out]; exact Nat.le_refl _, hn6.1, hn6.2.1, hn6.2.2.1, hn6.2.2.2⟩) hq7
  have HF := Lib.hid (show Q (.returned (.bool true)) w7 by rw [EQ.out]; exact hm7.out HBW.out (by omega))
  have q72 := hm7.cells.2.2
  clear hq7 hn6 hm7 HBB
  go_wp2_with fail
  first | exact HF.out | (go_ret; exact HF.out)
end Go.Proofs.YtigfcoibbmndpaaGreat
