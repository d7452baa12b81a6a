/- The reference's Write. -/
import Derived.Test.YtigfcoibbmndpaaGreatRdH
import Derived.Outline
import Derived.Deep.RegionHeld3
import Derived.Deep.AppendLies
import Derived.Deep.RegionLaw
namespace Go.Proofs.YtigfcoibbmndpaaGreat
open Go.RowKit
open Go.ChangeMaps
set_option linter.unusedVariables false
set_option linter.unusedSimpArgs false
theorem info_item : (Tryz.prog.info? 113).map (fun i => (i.zero, i.size, i.bytes)) = some (some (.agg #[.int .i64 0, .slice none 0 0]), 2, 32) := by kernel_rfl
theorem below_of_drew {C : Nat} {w w' : World} (h : Below C w.drew w') : Below C w w' := ⟨h.os, h.tape, h.output, h.size, h.block⟩
theorem stepS_dwf {s : DSt} (h : DWf s) : DWf (stepS s) := stepS_wf h
set_option maxHeartbeats 4000000 in
set_option maxRecDepth 100000 in
theorem rwrite_ok (P : Nat → Prop) (w : World) (r : Nat) (s : DSt) (wh j : Int) (n : Nat) (v : Value) (xs : List Int) (h : RRep P w r s wh n) (hr : RdN P w v xs) (hm : xs.length ≤ 140737488351232) (hn32 : (n + 1) * 32 ≤ 140737488355328) :
    Calls Tryz.prog 53 #[.pointer (some ⟨r, 0, none⟩), .int .i64 j, v] w (RNumQ P w r (writeS s j xs) (writeE s j xs.length) j (n + 1)) := by
  obtain ⟨Bm, Bs, cm, cs, vc, G, C, hx, hP, hl, hn⟩ := h
  obtain ⟨Q, eQ⟩ : ∃ Q, Q = RNumQ P w r (writeS s j xs) (writeE s j xs.length) j (n + 1) := ⟨_, rfl⟩
  rw [← eQ]
  have EQ := Lib.hid eQ
  obtain ⟨A, cp, rfl⟩ := hr.1.slice
  have hfit := fits_ok w r s _ _ vc wh j A xs.length cp hx.blk
  have hn1 : C.length ≤ n + 1 := by omega
  by_cases hw : wrE s j xs.length = 0
  · have hj : s.inr j := by
      by_cases h : s.inr j
      · exact h
      · exfalso; unfold wrE at hw; rw [if_neg h] at hw; exact absurd hw (by decide)
    obtain ⟨k, rfl⟩ : ∃ k : Nat, j = k := ⟨j.toNat, by have := hj.1; omega⟩
    have hk : k < s.nb := by have := hj.2; omega
    have hxl : xs.length = s.sz := by
      by_cases h : xs.length = s.sz
      · exact h
      · exfalso; unfold wrE at hw; rw [if_pos hj, if_neg h] at hw; exact absurd hw (by decide)
    rw [hw] at hfit
    have hst := rstep_ok w r s _ _ vc wh hx.blk hx.wf.f0 hx.wf.f1
    cases hb : stepB s
    · have hE : writeE s k xs.length = 22 := by unfold writeE; rw [hw, if_neg (by simp), if_neg (by rw [hb]; simp)]
      have hS : writeS s k xs = stepS s := by unfold writeS; rw [hw, if_neg (by simp), if_neg (by rw [hb]; simp)]
      rw [hb] at hst
      rw [hE, hS] at EQ
      have HX := Lib.hid hx
      have HP := Lib.hid hP
      have HL := Lib.hid hl
      have HN := Lib.hid hn1
      have HFT := Lib.hid hfit
      have HST := Lib.hid hst
      obtain ⟨L, eL⟩ : ∃ L, L = xs.length := ⟨_, rfl⟩
      rw [← eL] at HFT ⊢
      clear hx hP hl hn hfit hst eQ hr hj hw hb hE hS hxl eL hn1
      go_enter Tryz.func53, Tryz.ntmps53
      go_wp2_with fail
      refine HFT.out.mono ?_
      rintro e w' ⟨rfl, rfl⟩
      go_wp2_with fail
      refine HST.out.mono ?_
      rintro e w2 ⟨rfl, ho2, hb2⟩
      have hrf := rrefuse_ok w2 r (stepS s) _ _ vc wh 22 k hb2
      have HRF := Lib.hid hrf
      have HO2 := Lib.hid ho2
      clear hrf ho2 hb2 HST HFT
      go_wp2_with fail
      refine HRF.out.mono ?_
      rintro e w3 ⟨rfl, ho3, hb3⟩
      have hF : Q (.returned (.int .i64 22)) w3 := by
        rw [EQ.out]
        have hone : OneD w w3 r := ⟨ho3.1.trans HO2.out.1, ho3.2.1.trans HO2.out.2.1, ho3.2.2.1.trans HO2.out.2.2.1, ho3.2.2.2.1.trans HO2.out.2.2.2.1, fun b hb => (ho3.2.2.2.2 b hb).trans (HO2.out.2.2.2.2 b hb)⟩
        have hs := stepS_same s
        obtain ⟨t1, t2⟩ := HX.out.turn HP.out HL.out HN.out hone (s1 := stepS s) (by rw [hs.1]; exact hb3) (stepS_dwf HX.out.wf) hs.1 hs.2.1 hs.2.2.1 hs.2.2.2.1 hs.2.2.2.2
        exact ⟨rfl, t1, P, t2, fun b hb => .inl hb⟩
      have HF := Lib.hid hF
      clear hF ho3 hb3 HRF
      go_wp2_with fail
      first | exact HF.out | (go_ret; exact HF.out)
    · have hE : writeE s k xs.length = 0 := by unfold writeE; rw [hw, if_neg (by simp), if_pos hb]
      have hS : writeS s k xs = pushS (stepS s) k xs := by unfold writeS; rw [hw, if_neg (by simp), if_pos hb, show ((k : Int)).toNat = k by omega]
      rw [hb] at hst
      rw [hE, hS] at EQ
      have hs := stepS_same s
      obtain ⟨s1, es1⟩ : ∃ s1, s1 = stepS s := ⟨_, rfl⟩
      rw [← es1] at EQ hst hs
      have HX := Lib.hid hx
      have HP := Lib.hid hP
      have HL := Lib.hid hl
      have HN := Lib.hid hn
      have HFT := Lib.hid hfit
      have HST := Lib.hid hst
      have HS := Lib.hid hs
      have HR := Lib.hid hr
      have HXL := Lib.hid hxl
      have HK := Lib.hid hk
      have HW1 := Lib.hid (show DWf s1 by rw [es1]; exact stepS_dwf hx.wf)
      obtain ⟨L, eL⟩ : ∃ L, L = xs.length := ⟨_, rfl⟩
      rw [← eL] at HFT ⊢
      have EL := Lib.hid eL
      clear hx hP hl hn hfit hst eQ hr hj hw hb hE hS hxl eL hn1 hs es1 hk
      go_enter Tryz.func53, Tryz.ntmps53
      go_wp2_with fail
      refine HFT.out.mono ?_
      rintro e w' ⟨rfl, rfl⟩
      go_wp2_with fail
      refine HST.out.mono ?_
      rintro e w2 ⟨rfl, ho2, hb2⟩
      have hx1 : RRepX w2 r Bm Bs cm cs vc G s1 C wh := HX.out.cells (by rw [HS.out.1]; exact hb2) (fun b hb => ho2.2.2.2.2 b hb) ho2.2.2.2.1 HW1.out HS.out.1 HS.out.2.1 HS.out.2.2.1 HS.out.2.2.2.1 HS.out.2.2.2.2
      have hon2 : OnlyP P w w2 := ho2.only (HP.out r (.inl rfl))
      obtain ⟨hs', hl', hown, hel⟩ := hx1.cac
      obtain ⟨N, eN⟩ : ∃ N, N = C.length := ⟨_, rfl⟩
      have hxb := hx1.blk
      have hvcS : ∃ Ac cc, vc = .slice Ac C.length cc := own2_len hown
      obtain ⟨Ac, cc, rfl⟩ := hvcS
      rw [← eN] at hown hx1 hxb
      have c4 : w2.cell? ⟨r, 4, none⟩ = some (.slice Ac N cc) := hxb.cell 4
      have hcp := rcopy_ok w2.drew (.slice A L cp) xs (by
        have h := HR.out.only hon2
        rw [← EL.out] at h
        exact h) hm
      obtain ⟨i0, hi0, hz0, hz1, hz2⟩ := info_parts info_item
      have HC4 := Lib.hid c4
      have HX1 := Lib.hid hx1
      have HON2 := Lib.hid hon2
      have HO2 := Lib.hid ho2
      have HOWN := Lib.hid hown
      have HEL := Lib.hid hel
      have HLN := Lib.hid hl'
      have EN := Lib.hid eN
      have HCP := Lib.hid hcp
      have hN32 : (N + 1) * 32 ≤ 140737488355328 := by have := HN.out; rw [eN]; omega
      clear hx1 hon2 ho2 hb2 hown hel hl' eN hcp hxb HST HFT
      go_wp2_with fail
      go_region_law (first
          | (go_simp; go_at_call 29; refine HCP.out.mono ?_; rintro e w3 ⟨hB, rfl, hhB, hrow, hb3⟩; have HHB := Lib.hid hhB; have HROW := Lib.hid hrow; have HB3 := Lib.hid (below_of_drew hb3); have HK2 := Lib.hid (show w3.cell? ⟨r, 4, none⟩ = some (.slice Ac N cc) from (HX1.out.blk.below HB3.out HX1.out.blk.lt).cell 4); have HK3 := Lib.hid (show (w3.alloc (.cells #[.int .i64 k, .slice (some ⟨hB, 0, none⟩) xs.length xs.length] 113)).cell? ⟨r, 4, none⟩ = some (.slice Ac N cc) from ((HX1.out.blk.below HB3.out HX1.out.blk.lt).alloc _).cell 4); have k2 := HK2.out; have k3 := HK3.out; clear hhB hrow hb3)
          | (refine step_append_lies _ rfl (.tmp 30) (.tmp 35) 72 rfl 0 113 i0 _ 2 32 Tryz.underlying72 hi0 hz0 hz1 hz2 rfl (by omega) (.slice Ac N cc) N _ rfl ((own1_below HOWN.out HB3.out).alloc _) ⟨w3.heap.size, 0, none⟩ 1 1 [.int .i64 k, .slice (some ⟨hB, 0, none⟩) xs.length xs.length] rfl rfl (World.news_of_block (cs := #[.int .i64 k, .slice (some ⟨hB, 0, none⟩) xs.length xs.length]) (t := 113) (fr := (0, 0)) (heap_alloc_new w3 _)) (by simp [Value.oneCell']) (by omega) (by unfold maxLen; omega) hN32 (by omega) (w3.heap.size + 1) (by simp) ?_; intro g cap w4 ho4 hg4 hat hlt; have HO4 := Lib.hid ho4; have HG4 := Lib.hid hg4; have HAT := Lib.hid hat; have HK4 := Lib.hid (show w4.cell? ⟨r, 4, none⟩ = some (.slice Ac N cc) from ((hg4.cell_far ⟨r, 4, none⟩ (by simp; have := HX1.out.blk.lt; have := HB3.out.size; omega) (HX1.out.blk.ne_ownN HOWN.out (by decide))).trans HK3.out)); have f4 : w4.frozen? ⟨r, 4, none⟩ = false := (hg4.frozen_far ⟨r, 4, none⟩ (by simp; have := HX1.out.blk.lt; have := HB3.out.size; omega) (HX1.out.blk.ne_ownN HOWN.out (by decide))).trans (((HX1.out.blk.below HB3.out HX1.out.blk.lt).alloc _).free 4); have k4 := HK4.out; clear ho4 hg4 hat))
      all_goals
        have hsz1 : xs.length = s1.sz := by rw [HS.out.2.1]; exact HXL.out
        have ho4 := HO4.out
        have hrw := HROW.out
        rw [hsz1] at ho4 hrw
        rw [EN.out] at ho4
        have hx5 := HX1.out.pushed (k := k) (xs := xs) (by rw [HS.out.1]; exact HK.out) hsz1 HLN.out (by have h := HOWN.out; rw [EN.out] at h ⊢; exact h) HEL.out HB3.out hrw HHB.out ho4 HG4.out (HAT.out.elim .inl (fun h => .inr (by rw [h]; have h9 : w2.heap.size ≤ w3.heap.size := HB3.out.size; omega)))
        rw [← EN.out] at hx5
        obtain ⟨w5, ew5⟩ : ∃ w5, w5 = w4.setCell ⟨r, 4, none⟩ (.slice (some ⟨g, 0, none⟩) (N + 1) cap) := ⟨_, rfl⟩
        rw [← ew5] at hx5 ⊢
        have e8 : w5.cell? ⟨r, 8, none⟩ = some (.int .i64 s1.c1) := hx5.blk.cell 8
        have f8 := hx5.blk.free 8
        obtain ⟨y, ey⟩ : ∃ y, y = IntKind.i64.wrap (s1.c1 + 1) := ⟨_, rfl⟩
        have y1 : IntKind.i64.wrap (s1.c1 + 1) = y := ey.symm
        have hb6 : Blk (w5.setCell ⟨r, 8, none⟩ (.int .i64 y)) r 74 (rArr (pushS s1 k xs) (.slice (some ⟨Bm, 0, none⟩) s1.nb cm) (.slice (some ⟨Bs, 0, none⟩) s1.nb cs) (.slice (some ⟨g, 0, none⟩) (N + 1) cap) wh) := by rw [ey]; exact hx5.blk.set 8 _
        have hfi := fine_ok _ r _ _ _ _ wh hb6
        have hon5 : OnlyP P w2 w5 := by
          have hrP := HP.out r (.inl rfl)
          have h34 : OnlyP P w2 w4 := OnlyP.grown ((OnlyP.ofBelow HB3.out).alloc _) HG4.out (fun b hb => .inl (HP.out b (.inr (.inr (.inr (HX1.out.vco b hb))))))
          rw [ew5]
          exact h34.set (p := ⟨r, 4, none⟩) (.inl hrP) _
        have hl2 : ∀ b, P b → b < w2.heap.size := fun b hb => by rw [HO2.out.2.2.2.1]; exact HL.out b hb
        have HX5 := Lib.hid hx5
        have HFI := Lib.hid hfi
        have HON5 := Lib.hid hon5
        have HL2 := Lib.hid hl2
        have HGN : Hid (w2.heap.size ≤ hB ∧ (G g ∨ w2.heap.size ≤ g)) := Lib.hid ⟨HHB.out, HAT.out.elim (fun h => .inl (HX1.out.vco g h)) (fun h => .inr (by rw [h]; have h9 : w2.heap.size ≤ w3.heap.size := HB3.out.size; omega))⟩
        clear hsz1 ho4 hrw hx5 hb6 hfi hon5 hl2 HO4 HG4 HAT HK2 HK3 HK4 k2 k3 k4 f4 HROW HB3 HCP HHB ey ew5 HOWN HEL
        go_wp2_with fail
        refine HFI.out.mono ?_
        rintro e w7 ⟨rfl, ho7, hb7⟩
        have hF : Q (.returned (.int .i64 0)) w7 := by
          rw [EQ.out]
          have hone : OneD w5 w7 r := ⟨ho7.1, ho7.2.1, ho7.2.2.1, ho7.2.2.2.1.trans (size_setCell _ _ _), fun b hb => (ho7.2.2.2.2 b hb).trans (Below.heap_setCell w5 ⟨r, 8, none⟩ _ b hb)⟩
          have hsw := HON5.out.size
          have hsn : w2.heap.size = w.heap.size := HO2.out.2.2.2.1
          have hx7 := HX5.out.cells (w1 := w7) (s1 := pushS s1 k xs) (wh1 := -1) hb7 (fun b hb => hone.2.2.2.2 b hb) hone.2.2.2.1 (pushS_wf HW1.out (by rw [HS.out.1]; exact HK.out) (by rw [HS.out.2.1]; exact HXL.out)) rfl rfl rfl rfl rfl
          refine ⟨rfl, (HON2.out.then HON5.out).then (hone.only (HP.out r (.inl rfl))), fun b => P b ∨ b = hB ∨ b = g, ⟨Bm, Bs, cm, cs, _, _, _, hx7, ?_, ?_, ?_⟩, ?_⟩
          · rintro b (rfl | rfl | rfl | hb | rfl | rfl)
            · exact .inl (HP.out _ (.inl rfl))
            · exact .inl (HP.out _ (.inr (.inl rfl)))
            · exact .inl (HP.out _ (.inr (.inr (.inl rfl))))
            · exact .inl (HP.out b (.inr (.inr (.inr hb))))
            · exact .inr (.inl rfl)
            · exact .inr (.inr rfl)
          · rintro b (hb | rfl | rfl)
            · have := HL2.out b hb; rw [hone.2.2.2.1]; omega
            · exact (hx7.apart _ (.inr (.inl rfl))).1
            · exact (hx7.apart _ (.inr (.inr rfl))).1
          · rw [List.length_append]; have := HN.out; simp; exact this
          · rintro b (hb | rfl | rfl)
            · exact .inl hb
            · exact .inr (by have := HGN.out.1; omega)
            · rcases HGN.out.2 with h | h
              · exact .inl (HP.out _ (.inr (.inr (.inr h))))
              · exact .inr (by omega)
        have HF := Lib.hid hF
        clear hF ho7 hb7 HFI
        go_wp2_with fail
        first | exact HF.out | (go_ret; exact HF.out)
  · have hE : writeE s j xs.length = wrE s j xs.length := by unfold writeE; rw [if_pos hw]
    have hS : writeS s j xs = s := by unfold writeS; rw [if_pos hw]
    rw [hE, hS] at EQ
    obtain ⟨x, ex⟩ : ∃ x, x = wrE s j xs.length := ⟨_, rfl⟩
    rw [← ex] at EQ hfit hw
    have t0 : (x == 0) = false := by simp; exact hw
    have HX := Lib.hid hx
    have HP := Lib.hid hP
    have HL := Lib.hid hl
    have HN := Lib.hid hn1
    have HFT := Lib.hid hfit
    have HW0 := Lib.hid hw
    have HRF := Lib.hid (rrefuse_ok w r s _ _ vc wh x j hx.blk)
    obtain ⟨L, eL⟩ : ∃ L, L = xs.length := ⟨_, rfl⟩
    rw [← eL] at HFT ⊢
    clear hx hP hl hn hfit eQ hr hw hE hS ex eL hn1
    go_enter Tryz.func53, Tryz.ntmps53
    go_wp2_with fail
    refine HFT.out.mono ?_
    rintro e w' ⟨rfl, rfl⟩
    go_wp2_with fail
    refine HRF.out.mono ?_
    rintro e w3 ⟨rfl, ho3, hb3⟩
    have hF : Q (.returned (.int .i64 x)) w3 := by
      rw [EQ.out]
      obtain ⟨t1, t2⟩ := HX.out.turn HP.out HL.out HN.out ho3 hb3 HX.out.wf rfl rfl rfl rfl rfl
      refine ⟨rfl, t1, P, ?_, fun b hb => .inl hb⟩
      rw [show trB x j = j by unfold trB; rw [if_neg HW0.out]]; exact t2
    have HF := Lib.hid hF
    clear hF ho3 hb3 HRF
    go_wp2_with fail
    first | exact HF.out | (go_ret; exact HF.out)
end Go.Proofs.YtigfcoibbmndpaaGreat
