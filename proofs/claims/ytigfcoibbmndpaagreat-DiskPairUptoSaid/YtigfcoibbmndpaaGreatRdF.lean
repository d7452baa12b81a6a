/- The reference's Read. -/
import Derived.Test.YtigfcoibbmndpaaGreatRdE
import Derived.Outline
namespace Go.Proofs.YtigfcoibbmndpaaGreat
open Go.RowKit
open Go.ChangeMaps
set_option linter.unusedVariables false
set_option linter.unusedSimpArgs false
theorem own_at' {w : World} {B : Nat} {e : TypeId} {v : Value} {n : Nat} {xs : List Value} (h : w.ownsRow B e 1 v n xs) (hp : 0 < n) : ∃ g cap, v = .slice (some ⟨g, 0, none⟩) n cap ∧ B ≤ g ∧ g < w.heap.size ∧ ∀ i, i < n → w.cell? ⟨g, i, none⟩ = xs[i]? :=
  let ⟨g, cap, h1, h2, h3, _, _, h6⟩ := own_cells h hp; ⟨g, cap, h1, h2, h3, h6⟩
def cntS (s : DSt) : DSt := { s with c0 := IntKind.i64.wrap (s.c0 + 1) }
set_option maxHeartbeats 4000000 in
set_option maxRecDepth 100000 in
theorem rread_ok (P : Nat → Prop) (w : World) (r : Nat) (s : DSt) (wh j : Int) (n : Nat) (h : RRep P w r s wh n) (hn24 : n * 24 ≤ 140737488355328) :
    Calls Tryz.prog 32 #[.pointer (some ⟨r, 0, none⟩), .int .i64 j] w (RReadQ P w r (readS s j) (readX s j) (readE s j) j n) := by
  obtain ⟨Bm, Bs, cm, cs, vc, G, C, hx, hP, hl, hn⟩ := h
  obtain ⟨Q, eQ⟩ : ∃ Q, Q = RReadQ P w r (readS s j) (readX s j) (readE s j) j n := ⟨_, rfl⟩
  rw [← eQ]
  have EQ := Lib.hid eQ
  have HX := Lib.hid hx
  have HP := Lib.hid hP
  have HL := Lib.hid hl
  have HN := Lib.hid hn
  have hwf := hx.wf
  have HWF := Lib.hid hwf
  have c2 : w.cell? ⟨r, 2, none⟩ = some (.slice (some ⟨Bm, 0, none⟩) s.nb cm) := hx.blk.cell 2
  have c3 : w.cell? ⟨r, 3, none⟩ = some (.slice (some ⟨Bs, 0, none⟩) s.nb cs) := hx.blk.cell 3
  have c5 : w.cell? ⟨r, 5, none⟩ = some (.bool (!s.off)) := hx.blk.cell 5
  -- a refusal
  have hbad : ∀ x : Int, x ≠ 0 → readE s j = x → ∀ w3, CellQ w r s (.slice (some ⟨Bm, 0, none⟩) s.nb cm) (.slice (some ⟨Bs, 0, none⟩) s.nb cs) vc j w3 → Q (.returned (.tuple #[.slice none 0 0, .int .i64 x])) w3 := by
    intro x hx0 hE w3 ⟨ho, hb3⟩
    have hS : readS s j = s := by unfold readS; rw [if_neg (by rw [hE]; exact hx0)]
    have hXX : readX s j = [] := by unfold readX; rw [if_pos (by rw [hE]; exact hx0)]
    rw [eQ, hS, hXX, hE]
    obtain ⟨t1, t2⟩ := hx.turn hP hl hn ho hb3 hwf rfl rfl rfl rfl rfl
    refine ⟨_, rfl, .inl ⟨rfl, rfl⟩, t1, ?_⟩
    rw [show trB x j = j by unfold trB; rw [if_neg hx0]]; exact t2
  have HBAD := Lib.hid hbad
  by_cases hj : s.inr j
  · obtain ⟨k, rfl⟩ : ∃ k : Nat, j = k := ⟨j.toNat, by have := hj.1; omega⟩
    have hk : k < s.nb := by have := hj.2; omega
    have HT := Lib.hid (there_yes w r s _ _ _ wh k hx.blk hj)
    cases hoff : s.off
    · rw [hoff] at c5
      simp only [Bool.not_false] at c5
      have hc := rcached_ok w r Bm Bs cm cs vc G s C wh k hx (Nat.le_trans (Nat.mul_le_mul_right 24 hn) hn24)
      rw [partI_nat, ← hx.rel k] at hc
      have HC := Lib.hid hc
      obtain ⟨cur, g1, g2, g3⟩ := hx.spo
      obtain ⟨mcur, m1, m2, m3⟩ := hx.med
      obtain ⟨mv, mv1, mv2⟩ := m3 k hk
      have hd3 : ∀ W : World, Below w.heap.size w W → W.cell? ⟨Bs, k, none⟩ = some (.bool (s.sp k)) := fun W hW => ((g1.below hW g1.lt).cell k).trans (g3 k hk)
      have hd2 : ∀ W : World, W.heap[Bm]? = w.heap[Bm]? → W.cell? ⟨Bm, k, none⟩ = some mv := fun W hW => (cell_of_heap hW k).trans ((m1.cell k).trans mv1)
      have hmr : Rd .u8 w mv (s.dur k) := mv2.rd (hwf.dl k hk)
      have HD3 := Lib.hid hd3
      have HD2 := Lib.hid hd2
      have HMR := Lib.hid hmr
      have HNE := Lib.hid (show Bm ≠ r from m1.ne_blk hx.blk (by decide))
      have HNR := Lib.hid (show ¬ ¬ s.inr (k : Int) from fun h => h hj)
      have HOFF := Lib.hid hoff
      have HK := Lib.hid hk
      have HEN : Hid (∀ xs, readE s k = 0 → readX s k = xs → xs.length = s.sz → ∀ w2 : World, OneD w w2 r → Blk w2 r 74 (rArr (cntS s) (.slice (some ⟨Bm, 0, none⟩) s.nb cm) (.slice (some ⟨Bs, 0, none⟩) s.nb cs) vc wh) → True) := Lib.hid (fun _ _ _ _ _ _ _ => trivial)
      clear HEN hc g1 g2 g3 m1 m2 m3 mv1 mv2 hd3 hd2 hmr hbad eQ hx hP hl hn hj hoff hk
      go_enter Tryz.func32, Tryz.ntmps32
      go_wp2_with fail
      refine HT.out.mono ?_
      rintro e w' ⟨rfl, rfl⟩
      go_wp2_with fail
      refine HC.out.mono ?_
      rintro e w2 ⟨lv, rfl, ⟨Vs, hov, hV⟩, hb2⟩
      have hx2 := HX.out.keep (w1 := w2) (fun b hb => hb2.block b (HL.out b (HP.out b hb))) hb2.size
      have e7 : w2.cell? ⟨r, 7, none⟩ = some (.int .i64 s.c0) := hx2.blk.cell 7
      have f7 := hx2.blk.free 7
      have e2 : w2.cell? ⟨r, 2, none⟩ = some (.slice (some ⟨Bm, 0, none⟩) s.nb cm) := hx2.blk.cell 2
      have e3 : w2.cell? ⟨r, 3, none⟩ = some (.slice (some ⟨Bs, 0, none⟩) s.nb cs) := hx2.blk.cell 3
      have d3 := HD3.out w2 hb2
      obtain ⟨y, ey⟩ : ∃ y, y = IntKind.i64.wrap (s.c0 + 1) := ⟨_, rfl⟩
      have hset : Blk (w2.setCell ⟨r, 7, none⟩ (.int .i64 y)) r 74 (rArr (cntS s) (.slice (some ⟨Bm, 0, none⟩) s.nb cm) (.slice (some ⟨Bs, 0, none⟩) s.nb cs) vc wh) := by rw [ey]; exact hx2.blk.set 7 _
      -- a copy and its end
      have hend : readE s k = 0 → ∀ xs, readX s k = xs → ∀ w4 e, CopyQ (w2.setCell ⟨r, 7, none⟩ (.int .i64 y)) xs e w4 → ∃ u, e = .returned u ∧ Blk w4 r 74 (rArr (cntS s) (.slice (some ⟨Bm, 0, none⟩) s.nb cm) (.slice (some ⟨Bs, 0, none⟩) s.nb cs) vc wh) ∧ ∀ w5, CellQ w4 r (cntS s) (.slice (some ⟨Bm, 0, none⟩) s.nb cm) (.slice (some ⟨Bs, 0, none⟩) s.nb cs) vc (-1) w5 → Q (.returned (.tuple #[u, .int .i64 0])) w5 := by
        intro hE xs hXX w4 e hq
        obtain ⟨u, rfl, ha, hb4⟩ := hq.ans
        have hblk4 := hset.below hb4 hset.lt
        refine ⟨u, rfl, hblk4, fun w5 ⟨ho5, hb5⟩ => ?_⟩
        have hS : readS s k = cntS s := by unfold readS cntS; rw [if_pos hE]
        rw [EQ.out, hS, hXX, hE]
        have hone : OneD w2 (w2.setCell ⟨r, 7, none⟩ (.int .i64 y)) r := (OneD.refl _ _).set _ _
        have hs2 : (w2.setCell ⟨r, 7, none⟩ (.int .i64 y)).heap.size = w2.heap.size := size_setCell _ _ _
        have hL2 : ∀ b, P b → b < w2.heap.size := fun b hb => Nat.lt_of_lt_of_le (HL.out b hb) hb2.size
        obtain ⟨t1, t2⟩ := hx2.turn HP.out hL2 HN.out hone hset (s1 := cntS s) ⟨HWF.out.nb1, HWF.out.nb2, HWF.out.sz0, HWF.out.sz1, HWF.out.dl, HWF.out.cl, HWF.out.cn, HWF.out.f0, HWF.out.f1⟩ rfl rfl rfl rfl rfl
        have t3 := t2.below (hb4.mono (Nat.le_refl _))
        obtain ⟨Bm', Bs', cm', cs', vc', G', C', hx3, q1, q2, q3⟩ := t3
        have hO : OnlyP P w w4 := ((OnlyP.ofBelow hb2).then t1).then (OnlyP.ofBelow (hb4.mono (Nat.le_refl _)))
        have hP5 : OnlyP P w4 w5 := ho5.only (HP.out r (.inl rfl))
        have hO5 : OnlyP P w w5 := hO.then hP5
        refine ⟨u, rfl, ?_, hO5, ?_⟩
        · refine AnsP.lo (ha.only hP5 (fun b hb _ hc => by have := HL.out b hc; have := hb2.size; rw [hs2] at hb; omega)) (by rw [hs2]; exact hb2.size)
        · have hx4 := (((HX.out.keep (w1 := w2) (fun b hb => hb2.block b (HL.out b (HP.out b hb))) hb2.size).cells hset (fun b hb => hone.2.2.2.2 b hb) hone.2.2.2.1 (s1 := cntS s) ⟨HWF.out.nb1, HWF.out.nb2, HWF.out.sz0, HWF.out.sz1, HWF.out.dl, HWF.out.cl, HWF.out.cn, HWF.out.f0, HWF.out.f1⟩ rfl rfl rfl rfl rfl).keep (w1 := w4) (fun b hb => hb4.block b (by rw [hs2]; exact hL2 b (HP.out b hb))) hb4.size)
          obtain ⟨_, t5⟩ := hx4.turn HP.out (fun b hb => Nat.lt_of_lt_of_le (hL2 b hb) (by rw [← hs2]; exact hb4.size)) HN.out ho5 hb5 hx4.wf rfl rfl rfl rfl rfl
          exact t5
      have HEND := Lib.hid hend
      have HSET := Lib.hid hset
      have EY := Lib.hid ey
      have HB2 := Lib.hid hb2
      have HOV := Lib.hid hov
      have HV := Lib.hid hV
      have HX2 := Lib.hid hx2
      clear hend hset ey hb2 hov hV hx2 HC HT
      obtain ⟨wS, ewS⟩ : ∃ wS, wS = w2.setCell ⟨r, 7, none⟩ (.int .i64 y) := ⟨_, rfl⟩
      have hfar : ∀ b, b ≠ r → wS.heap[b]? = w2.heap[b]? := fun b hb => by rw [ewS]; exact Below.heap_setCell w2 ⟨r, 7, none⟩ _ b hb
      have hinr : s.inr (k : Int) := by
        by_cases h : s.inr (k : Int)
        · exact h
        · exact absurd h HNR.out
      have hkr : ((k : Int)).toNat = k := by omega
      have y1 : IntKind.i64.wrap (s.c0 + 1) = y := EY.out.symm
      have eS2 : wS.cell? ⟨r, 2, none⟩ = some (.slice (some ⟨Bm, 0, none⟩) s.nb cm) := by rw [ewS]; exact HSET.out.cell 2
      by_cases hca : s.ca k = []
      · have hln : (s.ca k).length = 0 := by rw [hca]; rfl
        rw [hln] at HOV
        obtain ⟨A, c, rfl⟩ : ∃ A c, lv = .slice A 0 c := by
          rcases HOV.out.2 with ⟨h, h0⟩ | ⟨g, cap, cur, h, _⟩
          · exact ⟨none, 0, h⟩
          · exact ⟨_, _, h⟩
        cases hsp : s.sp k
        · have hE : readE s k = 0 := by unfold readE; rw [if_neg HNR.out, if_neg (by rw [HOFF.out]; simp), hkr, if_neg (by simp [hca]), hsp]; rfl
          have hXX : readX s k = s.dur k := by unfold readX; rw [hE, hkr]; simp [hca]
          rw [hsp] at d3
          have hd := HD2.out wS ((hfar Bm HNE.out).trans (HB2.out.block Bm (HL.out Bm (HP.out Bm (.inr (.inl rfl))))))
          obtain ⟨mcur', mm1, _, mm3⟩ := HX2.out.med
          obtain ⟨v', mv1', mv2'⟩ := mm3 k HK.out
          have hvv : v' = mv := by
            have h1 : w2.cell? ⟨Bm, k, none⟩ = some v' := (mm1.cell k).trans mv1'
            have h2 := HD2.out w2 (HB2.out.block Bm (HL.out Bm (HP.out Bm (.inr (.inl rfl)))))
            rw [h1] at h2
            exact Option.some.inj h2
          rw [hvv] at mv2'
          have hrd : Rd .u8 wS mv (s.dur k) := (OwnL.keep mv2' (fun b hb => hfar b (HX2.out.apart b hb).2.1) (fun _ h => h)).rd (HWF.out.dl k HK.out)
          have hcp := rcopy_ok wS mv (s.dur k) hrd (by rw [HWF.out.dl k HK.out]; have := HWF.out.sz1; omega)
          obtain ⟨Am, cpm, rfl⟩ := hrd.slice
          rw [ewS] at hcp hd eS2
          have HE := Lib.hid hE
          have HXX := Lib.hid hXX
          have HCP := Lib.hid hcp
          have HKn : Hid (k < s.nb) := HK
          have hk := HK.out
          clear hE hXX hca hln hsp mm1 mm3 mv1' mv2' hvv hrd hcp ewS hfar hinr hkr HNR HOFF HV HOV HX2 HBAD hwf HWF HD3 HSET c2 c3 c5
          go_wp2_with fail
          refine HCP.out.mono ?_
          intro e w4 hq
          obtain ⟨u4, rfl, hblk4, hlast⟩ := HEND.out HE.out _ HXX.out w4 e hq
          have hfi := fine_ok w4 r (cntS s) _ _ _ wh hblk4
          have HFI := Lib.hid hfi
          have HLAST := Lib.hid hlast
          clear hq hblk4 hfi hlast HCP HEND
          go_wp2_with fail
          refine HFI.out.mono ?_
          rintro e w5 ⟨rfl, hq5⟩
          have HF := Lib.hid (HLAST.out w5 hq5)
          clear hq5 HFI HLAST
          go_wp2_with fail
          first | exact HF.out | (go_ret2; exact HF.out)
        · have hE : readE s k = 21 := by unfold readE; rw [if_neg HNR.out, if_neg (by rw [HOFF.out]; simp), hkr, if_neg (by simp [hca]), if_pos hsp]
          rw [hsp] at d3
          have HNO := Lib.hid (none_ok w2 r s _ _ _ wh 21 k HX2.out.blk)
          have hbad2 : ∀ w3, CellQ w2 r s (.slice (some ⟨Bm, 0, none⟩) s.nb cm) (.slice (some ⟨Bs, 0, none⟩) s.nb cs) vc k w3 → Q (.returned (.tuple #[.slice none 0 0, .int .i64 21])) w3 := fun w3 ⟨ho, hb3⟩ => by
            have hS : readS s k = s := by unfold readS; rw [if_neg (by rw [hE]; decide)]
            have hXX : readX s k = [] := by unfold readX; rw [if_pos (by rw [hE]; decide)]
            rw [EQ.out, hS, hXX, hE]
            obtain ⟨t1, t2⟩ := HX2.out.turn HP.out (fun b hb => Nat.lt_of_lt_of_le (HL.out b hb) HB2.out.size) HN.out ho hb3 HWF.out rfl rfl rfl rfl rfl
            exact ⟨_, rfl, .inl ⟨rfl, rfl⟩, (OnlyP.ofBelow HB2.out).then t1, t2⟩
          have HB21 := Lib.hid hbad2
          have hk := HK.out
          clear hE hca hln hsp hbad2 ewS hfar hinr hkr HNR HOFF HV HOV HX2 HBAD hwf HWF HD3 HSET HEND c2 c3 c5 eS2 y1
          go_wp2_with fail
          refine HNO.out.mono ?_
          rintro e w3 ⟨rfl, hq⟩
          have HF := Lib.hid (HB21.out w3 hq)
          clear hq HNO HB21
          go_wp2_with fail
          first | exact HF.out | (go_ret2; exact HF.out)
      · have hlp : 0 < (s.ca k).length := List.length_pos_iff.2 hca
        have hE : readE s k = 0 := by unfold readE; rw [if_neg HNR.out, if_neg (by rw [HOFF.out]; simp), hkr, if_pos hca]
        have hXX : readX s k = (s.ca k).getD ((s.ca k).length - 1) [] := by unfold readX; rw [hE, hkr]; simp [hca]
        obtain ⟨g, cap, rfl, hgB, hgs, hgc⟩ := own_at' HOV.out hlp
        obtain ⟨u, hu1, hu2⟩ := HV.out ((s.ca k).length - 1) (by omega)
        obtain ⟨m, em⟩ : ∃ m, m = (s.ca k).length - 1 := ⟨_, rfl⟩
        have hgr : g ≠ r := fun e => by have := HL.out r (HP.out r (.inl rfl)); omega
        have hcu : wS.cell? ⟨g, m, none⟩ = some u := by rw [em]; exact (cell_of_heap (hfar g hgr) _).trans ((hgc _ (by omega)).trans hu1)
        have hlu : ((s.ca k).getD ((s.ca k).length - 1) []).length = s.sz := by
          refine HWF.out.cl k _ ?_
          rw [List.getD_eq_getElem?_getD, List.getElem?_eq_getElem (by omega)]
          exact List.getElem_mem _
        have hrd : Rd .u8 wS u ((s.ca k).getD ((s.ca k).length - 1) []) := (OwnL.keep hu2 (fun b hb => hfar b (HX2.out.apart b hb).2.1) (fun _ h => h)).rd hlu
        have hcp := rcopy_ok wS u _ hrd (by rw [hlu]; have := HWF.out.sz1; omega)
        obtain ⟨Am, cpm, rfl⟩ := hrd.slice
        have hlm : (s.ca k).length ≤ n := by
          rw [HX2.out.rel k]
          exact Nat.le_trans (by unfold partC; rw [List.length_map]; exact List.length_filter_le _ _) HN.out
        obtain ⟨N, eN⟩ : ∃ N, N = (s.ca k).length := ⟨_, rfl⟩
        rw [ewS] at hcp hcu eS2
        rw [← eN] at em hlp hlm ⊢
        have m1 : IntKind.i64.wrap ((N : Int) - 1) = (m : Int) := by rw [IntWalk.i64_in _ (by omega)]; omega
        have m2 : (m : Int) < (N : Int) := by omega
        have t0 : (0 : Int) < (N : Int) := by omega
        have HE := Lib.hid hE
        have HXX := Lib.hid hXX
        have HCP := Lib.hid hcp
        clear hE hXX hca hgB hgs hgc hu1 hu2 hgr hlu hrd hcp ewS hfar hinr hkr HNR HOFF HV HOV HX2 HBAD hwf HWF HD3 HSET c2 c3 c5 em eN hlp hlm d3 eS2 e2 e3
        go_wp2_with fail
        refine HCP.out.mono ?_
        intro e w4 hq
        obtain ⟨u4, rfl, hblk4, hlast⟩ := HEND.out HE.out _ HXX.out w4 e hq
        have hfi := fine_ok w4 r (cntS s) _ _ _ wh hblk4
        have HFI := Lib.hid hfi
        have HLAST := Lib.hid hlast
        clear hq hblk4 hfi hlast HCP HEND
        go_wp2_with fail
        refine HFI.out.mono ?_
        rintro e w5 ⟨rfl, hq5⟩
        have HF := Lib.hid (HLAST.out w5 hq5)
        clear hq5 HFI HLAST
        go_wp2_with fail
        first | exact HF.out | (go_ret2; exact HF.out)
    · rw [hoff] at c5
      simp only [Bool.not_true] at c5
      have hE : readE s k = 22 := by unfold readE; rw [if_neg (fun h => h hj), if_pos hoff]
      have HE := Lib.hid hE
      have HNO := Lib.hid (none_ok w r s _ _ _ wh 22 k hx.blk)
      clear hbad eQ hx hP hl hn hj hoff hk hE
      go_enter Tryz.func32, Tryz.ntmps32
      go_wp2_with fail
      refine HT.out.mono ?_
      rintro e w' ⟨rfl, rfl⟩
      go_wp2_with fail
      refine HNO.out.mono ?_
      rintro e w3 ⟨rfl, hq⟩
      have HF := Lib.hid (HBAD.out 22 (by decide) HE.out w3 hq)
      clear hq HNO HT HBAD
      go_wp2_with fail
      first | exact HF.out | (go_ret2; exact HF.out)
  · have hE : readE s j = 2 := by unfold readE; rw [if_pos hj]
    have HE := Lib.hid hE
    have HT := Lib.hid (there_no w r s _ _ _ wh j hx.blk hj)
    have HNO := Lib.hid (none_ok w r s _ _ _ wh 2 j hx.blk)
    clear hbad eQ hx hP hl hn hj hE
    go_enter Tryz.func32, Tryz.ntmps32
    go_wp2_with fail
    refine HT.out.mono ?_
    rintro e w' ⟨rfl, rfl⟩
    go_wp2_with fail
    refine HNO.out.mono ?_
    rintro e w3 ⟨rfl, hq⟩
    have HF := Lib.hid (HBAD.out 2 (by decide) HE.out w3 hq)
    clear hq HNO HT HBAD
    go_wp2_with fail
    first | exact HF.out | (go_ret2; exact HF.out)
end Go.Proofs.YtigfcoibbmndpaaGreat
