/- The reference's Zero. -/
import Derived.Test.YtigfcoibbmndpaaGreatRdU
import Derived.Outline
import Derived.Deep.RegionHeld3
import Derived.Deep.AppendLies
import Derived.Deep.RegionLaw
namespace Go.Proofs.YtigfcoibbmndpaaGreat
open Go.RowKit
open Go.ChangeMaps
set_option linter.unusedVariables false
set_option linter.unusedSimpArgs false
theorem RRep.up {P : Nat → Prop} {w : World} {r : Nat} {s : DSt} {wh : Int} {n n' : Nat} (h : RRep P w r s wh n) (hn : n ≤ n') : RRep P w r s wh n' := by
  obtain ⟨Bm, Bs, cm, cs, vc, G, C, hx, h1, h2, h3⟩ := h
  exact ⟨Bm, Bs, cm, cs, vc, G, C, hx, h1, h2, Nat.le_trans h3 hn⟩
theorem RStep.up {P : Nat → Prop} {w w' : World} {r : Nat} {s : DSt} {wh : Int} {n n' : Nat} (h : RStep P w w' r s wh n) (hn : n ≤ n') : RStep P w w' r s wh n' :=
  let ⟨a, P', b, c⟩ := h; ⟨a, P', b.up hn, c⟩
theorem RStep.comp {P P' : Nat → Prop} {w w1 w2 : World} {r : Nat} {s : DSt} {wh : Int} {n : Nat} (ho : OnlyP P w w1) (hP : ∀ b, P' b → P b ∨ w.heap.size ≤ b) (h : RStep P' w1 w2 r s wh n) : RStep P w w2 r s wh n := by
  obtain ⟨h1, P2, h2, h3⟩ := h
  refine ⟨ho.trans h1 hP, P2, h2, fun b hb => ?_⟩
  rcases h3 b hb with h | h
  · exact hP b h
  · exact .inr (Nat.le_trans ho.size h)
theorem OneD.then {w w1 w2 : World} {d : Nat} (h : OneD w w1 d) (h2 : OneD w1 w2 d) : OneD w w2 d :=
  ⟨h2.1.trans h.1, h2.2.1.trans h.2.1, h2.2.2.1.trans h.2.2.1, h2.2.2.2.1.trans h.2.2.2.1, fun b hb => (h2.2.2.2.2 b hb).trans (h.2.2.2.2 b hb)⟩
set_option maxHeartbeats 8000000 in
set_option maxRecDepth 100000 in
theorem rzero_ok (P : Nat → Prop) (w : World) (r : Nat) (s : DSt) (wh : Int) (n : Nat) (f c : Int) (hf : I64 f) (h : RRep P w r s wh n) (hn32 : (n + 8193) * 32 ≤ 140737488355328) :
    Calls Tryz.prog 57 #[.pointer (some ⟨r, 0, none⟩), .int .i64 f, .int .i64 c] w (RNumQ P w r (zeroR s f c).1 (zeroR s f c).2.1 (zeroR s f c).2.2 (n + 8192)) := by
  obtain ⟨Bm, Bs, cm, cs, vc, G, C, hx, hP, hl, hn⟩ := id h
  obtain ⟨Q, eQ⟩ : ∃ Q, Q = RNumQ P w r (zeroR s f c).1 (zeroR s f c).2.1 (zeroR s f c).2.2 (n + 8192) := ⟨_, rfl⟩
  rw [← eQ]
  have EQ := Lib.hid eQ
  have HR0 := Lib.hid h
  have HX := Lib.hid hx
  have HP := Lib.hid hP
  have HL := Lib.hid hl
  have HN := Lib.hid hn
  obtain ⟨NB, eNB⟩ : ∃ NB, NB = s.nb := ⟨_, rfl⟩
  have ENB := Lib.hid eNB
  have hnb : NB ≤ 8192 := by rw [eNB]; exact hx.wf.nb2
  have c0 : w.cell? ⟨r, 0, none⟩ = some (.int .i64 NB) := by rw [eNB]; exact hx.blk.cell 0
  have c5 : w.cell? ⟨r, 5, none⟩ = some (.bool (!s.off)) := hx.blk.cell 5
  have hrefuse : ∀ x : Int, x ≠ 0 → (zeroR s f c).1 = s → (zeroR s f c).2.1 = x → (zeroR s f c).2.2 = f → ∀ e w', e = .returned (.int .i64 x) → CellQ w r s (.slice (some ⟨Bm, 0, none⟩) s.nb cm) (.slice (some ⟨Bs, 0, none⟩) s.nb cs) vc f w' → Q e w' := by
    intro x hx0 h1 h2 h3 e w' he hq
    rw [EQ.out, h1, h2, h3]
    obtain ⟨ho3, hb3⟩ := hq
    obtain ⟨t1, t2⟩ := HX.out.turn HP.out HL.out (Nat.le_trans HN.out (Nat.le_add_right _ 8192)) ho3 hb3 HX.out.wf rfl rfl rfl rfl rfl
    refine ⟨he, t1, P, ?_, fun b hb => .inl hb⟩
    rw [show trB x f = f by unfold trB; rw [if_neg hx0]]; exact t2
  have HRF := Lib.hid hrefuse
  clear eQ h hx hP hl hn hrefuse eNB
  by_cases hc0 : c < 0
  · have hz : zeroR s f c = (s, 1, f) := by unfold zeroR; rw [if_pos hc0]
    have HQ := Lib.hid (HRF.out 1 (by decide) (by rw [hz]) (by rw [hz]) (by rw [hz]))
    have HNO := Lib.hid (rrefuse_ok w r s _ _ _ wh 1 f HX.out.blk)
    clear hz
    go_enter Tryz.func57, Tryz.ntmps57
    go_wp2_with fail
    refine HNO.out.mono ?_
    rintro e w3 ⟨rfl, hq⟩
    have HF := Lib.hid (HQ.out _ _ rfl hq)
    clear hq
    go_wp2_with fail
    first | exact HF.out | (go_ret; exact HF.out)
  · by_cases hr : f < 0 ∨ (NB : Int) < f ∨ (NB : Int) - f < c
    · have hz : zeroR s f c = (s, 2, f) := by unfold zeroR; rw [if_neg hc0, if_pos (by rw [← ENB.out]; exact hr)]
      have HQ := Lib.hid (HRF.out 2 (by decide) (by rw [hz]) (by rw [hz]) (by rw [hz]))
      have HNO := Lib.hid (fun W (hW : Blk W r 74 (rArr s (.slice (some ⟨Bm, 0, none⟩) s.nb cm) (.slice (some ⟨Bs, 0, none⟩) s.nb cs) vc wh)) => rrefuse_ok W r s _ _ _ wh 2 f hW)
      clear hz
      have hr2 : f < 0 ∨ (0 ≤ f ∧ (NB : Int) < f) ∨ (0 ≤ f ∧ f ≤ NB ∧ (NB : Int) - f < c) := by omega
      clear hr
      rcases hr2 with hr | ⟨hr, hr2⟩ | ⟨hr, hr2, hr3⟩
      all_goals
        go_enter Tryz.func57, Tryz.ntmps57
        go_wp2_with fail
        refine (HNO.out w HX.out.blk).mono ?_
        rintro e w3 ⟨rfl, hq⟩
        have HF := Lib.hid (HQ.out _ _ rfl hq)
        clear hq
        go_wp2_with fail
        first | exact HF.out | (go_ret; exact HF.out)
    · have hr1 : 0 ≤ f := by omega
      have hr2 : f ≤ NB := by omega
      have hr3 : c ≤ (NB : Int) - f := by omega
      by_cases ho : s.off = true
      · rw [ho] at c5
        have hz : zeroR s f c = (s, 22, f) := by unfold zeroR; rw [if_neg hc0, if_neg (by rw [← ENB.out]; exact hr), if_pos ho]
        have HQ := Lib.hid (HRF.out 22 (by decide) (by rw [hz]) (by rw [hz]) (by rw [hz]))
        have HNO := Lib.hid (rrefuse_ok w r s _ _ _ wh 22 f HX.out.blk)
        simp only [Bool.not_true] at c5
        have t0 : decide (c < 0) = false := decide_eq_false hc0
        have t1 : decide (f < 0) = false := decide_eq_false (by omega)
        have t2 : decide ((NB : Int) < f) = false := decide_eq_false (by omega)
        have t3 : decide ((NB : Int) - f < c) = false := decide_eq_false (by omega)
        have m3 : IntKind.i64.wrap ((NB : Int) - f) = (NB : Int) - f := IntWalk.i64_in _ (by omega)
        clear hz ho hr hr1 hr2 hr3 hc0
        go_enter Tryz.func57, Tryz.ntmps57
        go_wp2_with fail
        refine HNO.out.mono ?_
        rintro e w3 ⟨rfl, hq⟩
        have HF := Lib.hid (HQ.out _ _ rfl hq)
        clear hq
        go_wp2_with fail
        first | exact HF.out | (go_ret; exact HF.out)
      · have ho' : s.off = false := by simpa using ho
        rw [ho'] at c5
        simp only [Bool.not_false] at c5
        obtain ⟨kf, ef⟩ : ∃ k : Nat, f = k := ⟨f.toNat, by omega⟩
        obtain ⟨nC, ec⟩ : ∃ n : Nat, c = n := ⟨c.toNat, by omega⟩
        have hz : zeroR s f c = zeroRun (List.replicate s.sz 0) nC s kf := by
          unfold zeroR; rw [if_neg hc0, if_neg (by rw [← ENB.out]; exact hr), if_neg ho, ef, ec]; simp
        obtain ⟨SZ, eSZ⟩ : ∃ SZ, SZ = s.sz := ⟨_, rfl⟩
        have hs0 : 0 < SZ := by rw [eSZ]; exact HX.out.wf.sz0
        have hs1 : SZ ≤ 1024 := by rw [eSZ]; exact HX.out.wf.sz1
        rw [← eSZ] at hz
        obtain ⟨zs, ezs⟩ : ∃ zs, zs = List.replicate SZ (0 : Int) := ⟨_, rfl⟩
        have hzl : zs.length = SZ := by rw [ezs, List.length_replicate]
        rw [← ezs] at hz
        have hmk := fun w => run_make_row' (P := Tryz.prog) 22 5 (.int .u8 0) 1 Tryz.underlying22 hd_info5 rfl .i64 .i64 SZ (by omega) (by omega) w
        have hkn : kf + nC ≤ NB := by omega
        have HZ := Lib.hid hz
        have EZS := Lib.hid ezs
        have HZL := Lib.hid hzl
        have ESZ := Lib.hid eSZ
        obtain ⟨i0, hi0, hz0, hz1, hz2⟩ := info_parts info_item
        obtain ⟨E, eE⟩ : ∃ E, E = kf + nC := ⟨_, rfl⟩
        have hsum2 : IntKind.i64.wrap (f + c) = (E : Int) := by rw [show f + c = (E : Int) by omega]; exact IntWalk.i64_in _ (by omega)
        have t0 : decide (c < 0) = false := decide_eq_false hc0
        have t1 : decide (f < 0) = false := decide_eq_false (by omega)
        have t2 : decide ((NB : Int) < f) = false := decide_eq_false (by omega)
        have t3 : decide ((NB : Int) - f < c) = false := decide_eq_false (by omega)
        have m3 : IntKind.i64.wrap ((NB : Int) - f) = (NB : Int) - f := IntWalk.i64_in _ (by omega)
        have EF := Lib.hid ef
        have EE := Lib.hid eE
        have HKN := Lib.hid hkn
        have HNB := Lib.hid hnb
        clear hz ezs hzl eSZ ho ho' hr hc0 hr3 hr1 hr2 eE hkn hnb ef ec hf
        go_enter Tryz.func57, Tryz.ntmps57
        go_wp2_with fail
        clear c0 c5 t0 t1 t2 t3 m3
        have eE := EE.out
        have hkn := HKN.out
        have hnb := HNB.out
        go_loopw [7, 8] (fun b _ wr => ∃ t k : Nat, t ≤ nC ∧ b = .int .i64 (k : Int) ∧ k = kf + t ∧ ∃ st, RStep P w wr r st wh (n + t) ∧ zeroRun zs (nC - t) st (kf + t) = zeroRun zs nC s kf ∧ st.nb = NB ∧ st.sz = SZ) (fun b _ _ => E - (intOf b).toNat)
        case atStart => exact ⟨0, kf, Nat.zero_le _, by rw [EF.out], rfl, s, ⟨OnlyP.refl _ _, P, HR0.out, fun b hb => .inl hb⟩, rfl, ENB.out.symm, ESZ.out.symm⟩
        case round =>
          obtain ⟨t, k, ht, rfl, ek, st, hstp, hrun, hnbt, hszt⟩ := hrel
          have HSTP := Lib.hid hstp
          have HRUN := Lib.hid hrun
          have HNBT := Lib.hid hnbt
          have HSZT := Lib.hid hszt
          rw [← ek] at HRUN
          clear hstp hrun hnbt hszt
          by_cases hlt : t < nC
          · have hk : k < NB := by omega
            have hcmp : k < E := by omega
            have hck : decide (k < E) = true := decide_eq_true hcmp
            obtain ⟨hon, P', hrep, hP'⟩ := HSTP.out
            obtain ⟨Bm', Bs', cm', cs', vc', G', C', hx, hPo, hl, hn⟩ := hrep
            have hst := rstep_ok wr r st _ _ vc' wh hx.blk hx.wf.f0 hx.wf.f1
            obtain ⟨b0, eb0⟩ : ∃ b, b = stepB st := ⟨_, rfl⟩
            have hs := stepS_same st
            have hwf1 := stepS_dwf hx.wf
            have hrn : (b0 = false → zeroRun zs nC s kf = (stepS st, 22, (k : Int))) ∧ (b0 = true → zeroRun zs (nC - (t + 1)) (pushS (stepS st) k zs) (k + 1) = zeroRun zs nC s kf) := by
              have h1 := HRUN.out
              rw [show nC - t = (nC - (t + 1)) + 1 by omega] at h1
              simp only [zeroRun] at h1
              rw [← eb0] at h1
              exact ⟨fun h => by rw [h] at h1; exact h1.symm, fun h => by rw [h] at h1; exact h1⟩
            rw [← eb0] at hst
            obtain ⟨s1, es1⟩ : ∃ s1, s1 = stepS st := ⟨_, rfl⟩
            rw [← es1] at hst hs hwf1 hrn
            have HX' := Lib.hid hx
            have HON := Lib.hid hon
            have HP2 := Lib.hid hP'
            have HPO := Lib.hid hPo
            have HL' := Lib.hid hl
            have HN' := Lib.hid hn
            have HST := Lib.hid hst
            have HS := Lib.hid hs
            have HW1 := Lib.hid hwf1
            have HRN := Lib.hid hrn
            have HLT := Lib.hid hlt
            have EK := Lib.hid ek
            have hk9 : k ≤ 8192 := by omega
            clear eE hkn hnb ht hcmp hx hon hP' hPo hl hn hst hs hwf1 hrn es1 eb0 ek hlt HRUN HSTP
            go_wp2_with fail
            refine HST.out.mono ?_
            rintro e w2 ⟨rfl, ho2, hb2⟩
            have hx1 : RRepX w2 r Bm' Bs' cm' cs' vc' G' s1 C' wh := HX'.out.cells (by rw [HS.out.1]; exact hb2) (fun b hb => ho2.2.2.2.2 b hb) ho2.2.2.2.1 HW1.out HS.out.1 HS.out.2.1 HS.out.2.2.1 HS.out.2.2.2.1 HS.out.2.2.2.2
            have hon2 : OnlyP P' wr w2 := ho2.only (HPO.out r (.inl rfl))
            have hl2 : ∀ b, P' b → b < w2.heap.size := fun b hb => by rw [ho2.2.2.2.1]; exact HL'.out b hb
            have HX1 := Lib.hid hx1
            have HON2 := Lib.hid hon2
            have HL2 := Lib.hid hl2
            have HSZ2 : Hid (w2.heap.size = wr.heap.size) := Lib.hid ho2.2.2.2.1
            clear hx1 hon2 hl2 ho2 hb2 HST
            cases b0
            · have HNO := Lib.hid (rrefuse_ok w2 r s1 _ _ _ wh 22 k HX1.out.blk)
              go_wp2_with fail
              refine HNO.out.mono ?_
              rintro e w3 ⟨rfl, ho3, hb3⟩
              have hF : Q (.returned (.int .i64 22)) w3 := by
                rw [EQ.out, HZ.out, HRN.out.1 (by trivial)]
                obtain ⟨t1, t2⟩ := HX1.out.turn HPO.out HL2.out (Nat.le_trans HN'.out (show n + t ≤ n + 8192 by have h1 := HLT.out; have h2 := HKN.out; have h3 := HNB.out; omega)) ho3 hb3 HX1.out.wf rfl rfl rfl rfl rfl
                refine ⟨rfl, RStep.comp HON.out HP2.out ⟨HON2.out.then t1, P', ?_, fun b hb => .inl hb⟩⟩
                rw [show trB 22 (k : Int) = (k : Int) by unfold trB; rw [if_neg (by decide)]]; exact t2
              have HF := Lib.hid hF
              clear hF ho3 hb3 HNO
              go_wp2_with fail
              first | exact HF.out | (go_ret; exact HF.out)
            · obtain ⟨hs', hl', hown, hel⟩ := HX1.out.cac
              obtain ⟨N, eN⟩ : ∃ N, N = C'.length := ⟨_, rfl⟩
              have hxb := HX1.out.blk
              obtain ⟨Ac, cc, hvc⟩ : ∃ Ac cc, vc' = .slice Ac N cc := by rw [eN]; exact own2_len hown
              subst hvc
              rw [← eN] at hown
              have hsz1 : s1.sz = SZ := by rw [HS.out.2.1]; exact HSZT.out
              have c4 : w2.cell? ⟨r, 4, none⟩ = some (.slice Ac N cc) := hxb.cell 4
              have c1 : w2.cell? ⟨r, 1, none⟩ = some (.int .i64 SZ) := by rw [← hsz1]; exact hxb.cell 1
              have hbw : Below w2.heap.size w2 (w2.drew.alloc (.cells (madeCells #[.int .u8 0] SZ) 5)) := (⟨rfl, rfl, rfl, Nat.le_refl _, fun _ _ => rfl⟩ : Below w2.heap.size w2 w2.drew).alloc (Nat.le_refl _) _
              have hrw : RowA .u8 5 (w2.drew.alloc (.cells (madeCells #[.int .u8 0] SZ) 5)) w2.heap.size SZ (fun t => zs.getD t 0) := by
                rw [EZS.out]
                exact (RowA.made .u8 5 w2.drew SZ).congr fun i hi => by simp [hi]
              have k2 : ((w2.drew.alloc (.cells (madeCells #[.int .u8 0] SZ) 5))).cell? ⟨r, 4, none⟩ = some (.slice Ac N cc) := (hxb.below hbw hxb.lt).cell 4
              have k3 : (((w2.drew.alloc (.cells (madeCells #[.int .u8 0] SZ) 5))).alloc (.cells #[.int .i64 k, .slice (some ⟨w2.heap.size, 0, none⟩) SZ SZ] 113)).cell? ⟨r, 4, none⟩ = some (.slice Ac N cc) := ((hxb.below hbw hxb.lt).alloc _).cell 4
              have hsw : ((w2.drew.alloc (.cells (madeCells #[.int .u8 0] SZ) 5))).heap.size = w2.heap.size + 1 := by simp
              have hnbk : ((w2.drew.alloc (.cells (madeCells #[.int .u8 0] SZ) 5)).alloc (.cells #[.int .i64 k, .slice (some ⟨w2.heap.size, 0, none⟩) SZ SZ] 113)).heap[w2.heap.size + 1]? = some (.cells #[.int .i64 k, .slice (some ⟨w2.heap.size, 0, none⟩) SZ SZ] 113 (0, 0)) := by
                have h9 := heap_alloc_new (w2.drew.alloc (.cells (madeCells #[.int .u8 0] SZ) 5)) (.cells #[.int .i64 k, .slice (some ⟨w2.heap.size, 0, none⟩) SZ SZ] 113)
                rw [hsw] at h9; exact h9
              have HNBK := Lib.hid hnbk
              have HBW := Lib.hid hbw
              have HRW := Lib.hid hrw
              have HC4 := Lib.hid c4
              have HOWN := Lib.hid hown
              have HEL := Lib.hid hel
              have HLN := Lib.hid hl'
              have EN := Lib.hid eN
              have HS1 := Lib.hid hsz1
              have HSW := Lib.hid hsw
              have HK3 := Lib.hid k3
              have hN32 : (N + 1) * 32 ≤ 140737488355328 := by have h0 := HN'.out; have h1 := HLT.out; have h2 := HKN.out; have h3 := HNB.out; rw [eN]; omega
              have hrl : r < w2.heap.size := hxb.lt
              clear hxb hown hel hl' eN hbw hrw hsz1 hsw hnbk
              go_wp2_with fail
              go_region_law (first
                  | (refine step_append_lies _ rfl (.tmp 64) (.tmp 72) 72 rfl 0 113 i0 _ 2 32 Tryz.underlying72 hi0 hz0 hz1 hz2 rfl (by omega) (.slice Ac N cc) N _ rfl ((own1_below HOWN.out HBW.out).alloc _) ⟨w2.heap.size + 1, 0, none⟩ 1 1 [.int .i64 k, .slice (some ⟨w2.heap.size, 0, none⟩) SZ SZ] rfl rfl (World.news_of_block (cs := #[.int .i64 k, .slice (some ⟨w2.heap.size, 0, none⟩) SZ SZ]) (t := 113) (fr := (0, 0)) HNBK.out) (by simp [Value.oneCell']) (by omega) (by unfold maxLen; omega) hN32 (by omega) (w2.heap.size + 1 + 1) (by simp) ?_; intro g cap w4 ho4 hg4 hat hlt; have HO4 := Lib.hid ho4; have HG4 := Lib.hid hg4; have HAT := Lib.hid hat; have HK4 := Lib.hid (show w4.cell? ⟨r, 4, none⟩ = some (.slice Ac N cc) from ((hg4.cell_far ⟨r, 4, none⟩ (by simp; omega) (HX1.out.blk.ne_ownN HOWN.out (by decide))).trans HK3.out)); have f4 : w4.frozen? ⟨r, 4, none⟩ = false := (hg4.frozen_far ⟨r, 4, none⟩ (by simp; omega) (HX1.out.blk.ne_ownN HOWN.out (by decide))).trans (((HX1.out.blk.below HBW.out HX1.out.blk.lt).alloc _).free 4); have k4 := HK4.out; clear ho4 hg4 hat))
              all_goals
                have hsz1 : zs.length = s1.sz := by rw [HS1.out]; exact HZL.out
                have hbw' : Below w2.heap.size w2 (w2.alloc (.cells (madeCells #[.int .u8 0] SZ) 5)) := (Below.refl _ _).alloc (Nat.le_refl _) _
                have hrw' : RowA .u8 5 (w2.alloc (.cells (madeCells #[.int .u8 0] SZ) 5)) w2.heap.size s1.sz (fun t => zs.getD t 0) := by rw [HS1.out]; exact HRW.out
                have hg4' : ((w2.alloc (.cells (madeCells #[.int .u8 0] SZ) 5)).alloc (.cells #[.int .i64 k, .slice (some ⟨w2.heap.size, 0, none⟩) SZ SZ] 113)).grownBy w4 (Value.slice Ac N cc).ownBlock := by
                  have h := HG4.out
                  exact ⟨h.os, h.tape, h.output, h.size, h.block⟩
                have ho4 := HO4.out
                rw [← HS1.out] at ho4
                rw [EN.out] at ho4
                have hx5 := HX1.out.pushed (k := k) (xs := zs) (by rw [HS.out.1, HNBT.out]; exact hk) hsz1 HLN.out (by have h := HOWN.out; rw [EN.out] at h ⊢; exact h) HEL.out hbw' hrw' (Nat.le_refl _) ho4 hg4' (HAT.out.elim .inl (fun h => .inr (by rw [h]; omega)))
                rw [← EN.out] at hx5
                obtain ⟨w5, ew5⟩ : ∃ w5, w5 = w4.setCell ⟨r, 4, none⟩ (.slice (some ⟨g, 0, none⟩) (N + 1) cap) := ⟨_, rfl⟩
                rw [← ew5] at hx5 ⊢
                have e8 : w5.cell? ⟨r, 8, none⟩ = some (.int .i64 s1.c1) := hx5.blk.cell 8
                have f8 := hx5.blk.free 8
                obtain ⟨y, ey⟩ : ∃ y, y = IntKind.i64.wrap (s1.c1 + 1) := ⟨_, rfl⟩
                have y1 : IntKind.i64.wrap (s1.c1 + 1) = y := ey.symm
                have hb6 : Blk (w5.setCell ⟨r, 8, none⟩ (.int .i64 y)) r 74 (rArr (pushS s1 k zs) (.slice (some ⟨Bm', 0, none⟩) s1.nb cm') (.slice (some ⟨Bs', 0, none⟩) s1.nb cs') (.slice (some ⟨g, 0, none⟩) (N + 1) cap) wh) := by rw [ey]; exact hx5.blk.set 8 _
                have hrP := HPO.out r (.inl rfl)
                have hon5 : OnlyP P' w2 w5 := by
                  have h34 : OnlyP P' w2 w4 := OnlyP.grown (((OnlyP.refl P' w2).alloc _).alloc _) hg4' (fun b hb => .inl (HPO.out b (.inr (.inr (.inr (HX1.out.vco b hb))))))
                  rw [ew5]
                  exact h34.set (p := ⟨r, 4, none⟩) (.inl hrP) _
                have ho7 : OneD w5 (w5.setCell ⟨r, 8, none⟩ (.int .i64 y)) r := (OneD.refl _ _).set _ _
                have hx7 := hx5.cells (w1 := w5.setCell ⟨r, 8, none⟩ (.int .i64 y)) (s1 := pushS s1 k zs) (wh1 := wh) hb6 (fun b hb => ho7.2.2.2.2 b hb) ho7.2.2.2.1 (pushS_wf HW1.out (by rw [HS.out.1, HNBT.out]; exact hk) hsz1) rfl rfl rfl rfl rfl
                have hsw := hon5.size
                have hstep : RStep P w (w5.setCell ⟨r, 8, none⟩ (.int .i64 y)) r (pushS s1 k zs) wh (n + (t + 1)) := by
                  refine RStep.comp HON.out HP2.out ⟨(HON2.out.then hon5).then (ho7.only hrP), fun b => P' b ∨ b = w2.heap.size ∨ b = g, ⟨Bm', Bs', cm', cs', _, _, _, hx7, ?_, ?_, ?_⟩, ?_⟩
                  · rintro b (rfl | rfl | rfl | hb | rfl | rfl)
                    · exact .inl (HPO.out _ (.inl rfl))
                    · exact .inl (HPO.out _ (.inr (.inl rfl)))
                    · exact .inl (HPO.out _ (.inr (.inr (.inl rfl))))
                    · exact .inl (HPO.out b (.inr (.inr (.inr hb))))
                    · exact .inr (.inl rfl)
                    · exact .inr (.inr rfl)
                  · rintro b (hb | rfl | rfl)
                    · have := HL2.out b hb; rw [ho7.2.2.2.1]; omega
                    · exact (hx7.apart _ (.inr (.inl rfl))).1
                    · exact (hx7.apart _ (.inr (.inr rfl))).1
                  · rw [List.length_append]; have := HN'.out; simp; omega
                  · rintro b (hb | rfl | rfl)
                    · exact .inl hb
                    · exact .inr (by have := HSZ2.out; omega)
                    · rcases HAT.out with h | h
                      · exact .inl (HPO.out _ (.inr (.inr (.inr (HX1.out.vco _ h)))))
                      · exact .inr (by have := HSZ2.out; omega)
                have HSTEP := Lib.hid hstep
                have HRN2 := Lib.hid (HRN.out.2 (by trivial))
                have hnb3 : (pushS s1 k zs).nb = NB := by show s1.nb = NB; rw [HS.out.1]; exact HNBT.out
                have hsz3 : (pushS s1 k zs).sz = SZ := HS1.out
                have HNB3 := Lib.hid hnb3
                have HSZ3 := Lib.hid hsz3
                clear hsz1 hbw' hrw' hg4' ho4 hx5 hb6 hrP hon5 ho7 hx7 hsw hstep hnb3 hsz3 HO4 HG4 HAT HK4 HK3 k4 f4 k2 k3 HRW HBW HNBK ey ew5 HOWN HEL c4 c1
                go_wp2_with fail
                go_roundw
                case rel => exact ⟨t + 1, k + 1, by have := HLT.out; omega, by go_num, by have := EK.out; omega, _, HSTEP.out, by have := EK.out; rw [show kf + (t + 1) = k + 1 by omega]; exact HRN2.out, HNB3.out, HSZ3.out⟩
                case measure => simp [intOf] <;> (have := EE.out; have := EK.out; have := HLT.out; omega)
          · have hF : ∀ w3, CellQ wr r st (.slice (some ⟨Bm, 0, none⟩) s.nb cm) (.slice (some ⟨Bs, 0, none⟩) s.nb cs) vc (-1) w3 → True := fun _ _ => trivial
            clear hF
            obtain rfl : nC = t := by omega
            obtain ⟨hon, P', hrep, hP'⟩ := HSTP.out
            obtain ⟨Bm', Bs', cm', cs', vc', G', C', hx, hPo, hl, hn⟩ := hrep
            have hfi := Lib.hid (fine_ok wr r st _ _ vc' wh hx.blk)
            have hrn : zeroRun zs nC s kf = (st, 0, ((kf + nC : Nat) : Int)) := by
              have h1 := HRUN.out
              rw [Nat.sub_self] at h1
              exact h1.symm.trans (by rw [← ek]; rfl)
            have hck : decide (k < E) = false := decide_eq_false (by omega)
            have HX' := Lib.hid hx
            have HON := Lib.hid hon
            have HP2 := Lib.hid hP'
            have HPO := Lib.hid hPo
            have HL' := Lib.hid hl
            have HN' := Lib.hid hn
            have HRN := Lib.hid hrn
            clear hx hon hP' hPo hl hn hrn HRUN HSTP eE hkn hnb ek
            go_wp2_with fail
            refine hfi.out.mono ?_
            rintro e w3 ⟨rfl, ho3, hb3⟩
            have hF : Q (.returned (.int .i64 0)) w3 := by
              rw [EQ.out, HZ.out, HRN.out]
              have hnn : nC ≤ 8192 := by have h2 := HKN.out; have h3 := HNB.out; omega
              obtain ⟨t1, t2⟩ := HX'.out.turn HPO.out HL'.out (Nat.le_trans HN'.out (Nat.add_le_add_left hnn n)) ho3 hb3 HX'.out.wf rfl rfl rfl rfl rfl
              exact ⟨rfl, RStep.comp HON.out HP2.out ⟨t1, P', t2, fun b hb => .inl hb⟩⟩
            have HF := Lib.hid hF
            clear hF ho3 hb3 hfi
            go_wp2_with fail
            first | exact HF.out | (go_ret; exact HF.out)
end Go.Proofs.YtigfcoibbmndpaaGreat
