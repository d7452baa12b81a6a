/- The disk's calls: Zero, Counts. -/
import Derived.Test.YtigfcoibbmndpaaGreatDisK
import Derived.Outline
namespace Go.Proofs.YtigfcoibbmndpaaGreat
open Go.RowKit
open Go.ChangeMaps
set_option linter.unusedVariables false
set_option linter.unusedSimpArgs false
theorem DStep.comp {O O' : Nat → Prop} {w w1 w2 : World} {d : Nat} {s : DSt} (ho : OnlyP O w w1) (hO : ∀ b, O' b → O b ∨ w.heap.size ≤ b) (h : DStep O' w1 w2 d s) : DStep O w w2 d s := by
  obtain ⟨h1, O2, h2, h3⟩ := h
  refine ⟨ho.trans h1 hO, O2, h2, fun b hb => ?_⟩
  rcases h3 b hb with h | h
  · exact hO b h
  · exact .inr (Nat.le_trans ho.size h)
theorem AnsE.lo {lo lo' : Nat} {w : World} {v : Value} {e0 j : Int} (h : AnsE lo w v e0 j) (hl : lo' ≤ lo) : AnsE lo' w v e0 j := by
  rcases h with h | ⟨b, e, hb, r⟩
  · exact .inl h
  · exact .inr ⟨b, e, Nat.le_trans hl hb, r⟩
theorem AnsP.lo {lo lo' : Nat} {w : World} {v : Value} {xs : List Int} (h : AnsP lo w v xs) (hl : lo' ≤ lo) : AnsP lo' w v xs := by
  rcases h with h | ⟨b, e, hb, r⟩
  · exact .inl h
  · exact .inr ⟨b, e, Nat.le_trans hl hb, r⟩
/-- Zeroes written into n blocks from k on. -/
def zeroRun (zs : List Int) : Nat → DSt → Nat → DSt × Int × Int
  | 0, s, k => (s, 0, k)
  | n + 1, s, k => if stepB s = true then zeroRun zs n (pushS (stepS s) k zs) (k + 1) else (stepS s, 22, k)
open Classical in
/-- What Zero does and answers: the disk, the error's number, its block. -/
noncomputable def zeroR (s : DSt) (f c : Int) : DSt × Int × Int :=
  if c < 0 then (s, 1, f) else if f < 0 ∨ s.nb < f ∨ s.nb - f < c then (s, 2, f) else if s.off = true then (s, 22, f) else zeroRun (List.replicate s.sz 0) c.toNat s f.toNat
theorem writeS_in {s : DSt} {k : Nat} {xs : List Int} (hk : k < s.nb) (hl : xs.length = s.sz) : wrE s k xs.length = 0 := by
  unfold wrE; rw [if_pos ⟨by omega, by omega⟩, if_pos hl]
set_option maxHeartbeats 4000000 in
set_option maxRecDepth 100000 in
theorem zero_ok (O : Nat → Prop) (w : World) (d : Nat) (s : DSt) (f c : Int) (hf : I64 f) (h : DRep O w d s) (hcap : ∀ k, ((s.ca k).length + 1) * 24 ≤ 200000000000000) :
    Calls Tryz.prog 56 #[.pointer (some ⟨d, 0, none⟩), .int .i64 f, .int .i64 c] w (AnsQ O w d (zeroR s f c).1 (zeroR s f c).2.1 (zeroR s f c).2.2) := by
  have h' := h
  obtain ⟨m, cc, B, ms, mc, F, G, hx, hO, hl⟩ := h
  obtain ⟨Q, eQ⟩ : ∃ Q, Q = AnsQ O w d (zeroR s f c).1 (zeroR s f c).2.1 (zeroR s f c).2.2 := ⟨_, rfl⟩
  rw [← eQ]
  have EQ := Lib.hid eQ
  have HD := Lib.hid h'
  have k0 : w.cell? ⟨d, 0, none⟩ = some (.int .i64 s.nb) := hx.blk.cell 0
  have k1 : w.cell? ⟨d, 1, none⟩ = some (.int .i64 s.sz) := hx.blk.cell 1
  have k4 : w.cell? ⟨d, 4, none⟩ = some (.bool s.off) := hx.blk.cell 4
  have hnb := hx.wf.nb2
  have hs0 := hx.wf.sz0
  have hs1 := hx.wf.sz1
  have hdl := hx.blk.lt
  clear eQ h'
  by_cases hc0 : c < 0
  · have hfin : ∀ e w2, RefQ w f 1 e w2 → Q e w2 := fun e w2 hq => by
      rw [EQ.out]; unfold zeroR; rw [if_pos hc0]
      exact ref_ans hq (by simp) (OnlyP.refl _ _) HD.out
    have HF := Lib.hid hfin
    clear hfin hx hO hl
    go_enter Tryz.func56, Tryz.ntmps56
    go_wp2_with fail
    refine (refuse_ok _ _ _).mono ?_
    intro e w2 hq
    have hq0 := hq
    obtain ⟨b, rfl, _⟩ := hq0
    have HQ2 := Lib.hid (HF.out _ _ hq)
    clear hq
    go_wp2_with fail
    first | exact HQ2.out | (go_ret; exact HQ2.out)
  · by_cases hr : f < 0 ∨ s.nb < f ∨ s.nb - f < c
    · have hfin : ∀ e w2, RefQ w f 2 e w2 → Q e w2 := fun e w2 hq => by
        rw [EQ.out]; unfold zeroR; rw [if_neg hc0, if_pos hr]
        exact ref_ans hq (by simp) (OnlyP.refl _ _) HD.out
      have HF := Lib.hid hfin
      clear hfin hx hO hl
      have hr2 : f < 0 ∨ (0 ≤ f ∧ s.nb < f) ∨ (0 ≤ f ∧ f ≤ s.nb ∧ s.nb - f < c) := by omega
      clear hr
      have hfin2 : ∀ e w2, RefQ w f 2 e w2 → Q e w2 := HF.out
      clear hfin2
      rcases hr2 with hr | ⟨hr, hr2⟩ | ⟨hr, hr2, hr3⟩
      all_goals
        go_enter Tryz.func56, Tryz.ntmps56
        go_wp2_with fail
        refine (refuse_ok _ _ _).mono ?_
        intro e w2 hq
        have hq0 := hq
        obtain ⟨b, rfl, _⟩ := hq0
        have HQ2 := Lib.hid (HF.out _ _ hq)
        clear hq
        go_wp2_with fail
        first | exact HQ2.out | (go_ret; exact HQ2.out)
    · have hr1 : 0 ≤ f := by omega
      have hr2 : f ≤ s.nb := by omega
      have hr3 : c ≤ s.nb - f := by omega
      by_cases ho : s.off = true
      · rw [ho] at k4
        have hfin : ∀ e w2, RefQ w f 22 e w2 → Q e w2 := fun e w2 hq => by
          rw [EQ.out]; unfold zeroR; rw [if_neg hc0, if_neg hr, if_pos ho]
          exact ref_ans hq (by simp) (OnlyP.refl _ _) HD.out
        have HF := Lib.hid hfin
        clear hfin hx hO hl ho hr
        go_enter Tryz.func56, Tryz.ntmps56
        go_wp2_with fail
        refine (refuse_ok _ _ _).mono ?_
        intro e w2 hq
        have hq0 := hq
        obtain ⟨b, rfl, _⟩ := hq0
        have HQ2 := Lib.hid (HF.out _ _ hq)
        clear hq
        go_wp2_with fail
        first | exact HQ2.out | (go_ret; exact HQ2.out)
      · have ho' : s.off = false := by simpa using ho
        rw [ho'] at k4
        obtain ⟨kf, rfl⟩ : ∃ k : Nat, f = k := ⟨f.toNat, by omega⟩
        obtain ⟨n, rfl⟩ : ∃ n : Nat, c = n := ⟨c.toNat, by omega⟩
        have hQz : zeroR s kf n = zeroRun (List.replicate s.sz 0) n s kf := by
          unfold zeroR; rw [if_neg hc0, if_neg hr, if_neg ho]; simp
        have HQz := Lib.hid hQz
        obtain ⟨zs, ezs⟩ : ∃ zs, zs = List.replicate s.sz (0 : Int) := ⟨_, rfl⟩
        rw [← ezs] at HQz
        have hzl : zs.length = s.sz := by rw [ezs, List.length_replicate]
        have hmk := fun w => run_make_row' (P := Tryz.prog) 22 5 (.int .u8 0) 1 Tryz.underlying22 hd_info5 rfl .i64 .i64 s.sz (by omega) (by omega) w
        obtain ⟨wZ, ewZ⟩ : ∃ wZ, wZ = w.alloc (.cells (madeCells #[.int .u8 0] s.sz) 5) := ⟨_, rfl⟩
        have hbZ : Below w.heap.size w wZ := by rw [ewZ]; exact (Below.refl _ _).alloc (Nat.le_refl _) _
        have hrZ : RowA .u8 5 wZ w.heap.size s.sz (fun i => zs.getD i 0) := by
          rw [ewZ, ezs]
          exact (RowA.made .u8 5 w s.sz).congr fun i hi => by simp [hi]
        have hsZ : wZ.heap.size = w.heap.size + 1 := by rw [ewZ]; simp
        have HRZ := Lib.hid hrZ
        have HBZ := Lib.hid hbZ
        have HSZ := Lib.hid hsZ
        have EWZ := Lib.hid ewZ
        have HZL := Lib.hid hzl
        have HCAP := Lib.hid hcap
        have HX := Lib.hid hx
        have HL := Lib.hid hl
        obtain ⟨NB, eNB⟩ : ∃ NB, NB = s.nb := ⟨_, rfl⟩
        have ENB := Lib.hid eNB
        rw [← eNB] at k0 hr2 hr3 hnb
        clear hQz hrZ hbZ hsZ ewZ hzl hcap hx hO hl ho ho' hr ezs eNB
        go_enter Tryz.func56, Tryz.ntmps56
        go_wp2_with fail
        rw [← EWZ.out]
        go_loopw [8, 9] (fun b _ wr => ∃ i : Nat, i ≤ n ∧ b = .int .i64 ((kf + i : Nat) : Int) ∧ ∃ si O', OnlyP O wZ wr ∧ DRep O' wr d si ∧ (∀ b, O' b → O b ∨ wZ.heap.size ≤ b) ∧ si.nb = s.nb ∧ si.sz = s.sz ∧ (∀ k, kf + i ≤ k → (si.ca k).length = (s.ca k).length) ∧ zeroRun zs n s kf = zeroRun zs (n - i) si (kf + i)) (fun b _ _ => kf + n - (intOf b).toNat)
        case atStart =>
          refine ⟨0, by omega, rfl, s, O, OnlyP.refl _ _, HD.out.below HBZ.out, fun b hb => .inl hb, rfl, rfl, fun k hk => rfl, rfl⟩
        case round =>
          obtain ⟨i, hi, rfl, si, O', hon, hdr, hO', hnbi, hszi, hcai, hrun⟩ := hrel
          have HON := Lib.hid hon
          have HDR := Lib.hid hdr
          have HO' := Lib.hid hO'
          have HNBI := Lib.hid hnbi
          have HSZI := Lib.hid hszi
          have HCAI := Lib.hid hcai
          have HRUN := Lib.hid hrun
          clear hon hdr hO' hnbi hszi hcai hrun
          by_cases hlt : i < n
          · have hwz : RdN O' wr (.slice (some ⟨w.heap.size, 0, none⟩) s.sz s.sz) zs := by
              have hlt2 : w.heap.size < wZ.heap.size := by have := HSZ.out; omega
              have hnO : ¬ O w.heap.size := fun hc => by have := HL.out _ hc; omega
              have hrow := HRZ.out.keep (HON.out.block w.heap.size hlt2 hnO)
              refine ⟨?_, fun b off q cq he _ hb => ?_⟩
              · have := hrow.rd zs s.sz (by rw [HZL.out]; exact Nat.le_refl _) (by rw [HZL.out]; exact Nat.le_refl _) (fun i hi => rfl)
                rw [HZL.out] at this; exact this
              · simp only [Value.slice.injEq, Option.some.injEq, Addr.mk.injEq] at he
                obtain ⟨⟨rfl, _⟩, _⟩ := he
                rcases HO'.out _ hb with h | h
                · exact hnO h
                · omega
            have hwr := write_ok O' wr d si ((kf + i : Nat) : Int) _ zs HDR.out hwz (by rw [show (((kf + i : Nat) : Int)).toNat = kf + i by omega, HCAI.out _ (Nat.le_refl _)]; exact HCAP.out _)
            have hin : wrE si ((kf + i : Nat) : Int) zs.length = 0 := writeS_in (by have := HNBI.out; have := ENB.out; omega) (by rw [HZL.out, HSZI.out])
            have HWR := Lib.hid hwr
            have HIN := Lib.hid hin
            clear hwz hwr hin
            go_wp2_with fail
            refine HWR.out.mono ?_
            rintro e w2 ⟨er, rfl, hans, hst⟩
            by_cases hb : stepB si = true
            · have e1 : writeE si ((kf + i : Nat) : Int) zs.length = 0 := by unfold writeE; rw [HIN.out, if_neg (by simp), if_pos hb]
              have e2 : writeS si ((kf + i : Nat) : Int) zs = pushS (stepS si) (kf + i) zs := by unfold writeS; rw [HIN.out, if_neg (by simp), if_pos hb, show (((kf + i : Nat) : Int)).toNat = kf + i by omega]
              rw [e1] at hans
              rw [e2] at hst
              obtain rfl : er = .nilIface := by
                rcases hans with ⟨h, _⟩ | ⟨_, _, _, h, _⟩
                · exact h
                · exact absurd rfl h
              obtain ⟨hon2, O2, hdr2, hO2⟩ := hst
              have hrel2 : ∃ si2 O2, OnlyP O wZ w2 ∧ DRep O2 w2 d si2 ∧ (∀ b, O2 b → O b ∨ wZ.heap.size ≤ b) ∧ si2.nb = s.nb ∧ si2.sz = s.sz ∧ (∀ k, kf + (i + 1) ≤ k → (si2.ca k).length = (s.ca k).length) ∧ zeroRun zs n s kf = zeroRun zs (n - (i + 1)) si2 (kf + (i + 1)) := by
                have hss := stepS_same si
                refine ⟨_, O2, HON.out.trans hon2 HO'.out, hdr2, fun b hb => ?_, hss.1.trans HNBI.out, hss.2.1.trans HSZI.out, fun k hk => ?_, ?_⟩
                · rcases hO2 b hb with h | h
                  · exact HO'.out b h
                  · exact .inr (Nat.le_trans HON.out.size h)
                · show (pushC (stepS si).ca (kf + i) zs k).length = _
                  unfold pushC
                  rw [if_neg (by omega), hss.2.2.2.2]
                  exact HCAI.out k (by omega)
                · rw [HRUN.out, show n - i = (n - (i + 1)) + 1 by omega]
                  rw [zeroRun, if_pos hb]
                  rfl
              have HREL := Lib.hid hrel2
              clear hans hon2 hdr2 hO2 hrel2 e1 e2 hb
              go_wp2_with fail
              go_roundw
              case rel => first | exact ⟨i + 1, by omega, by go_num, HREL.out⟩ | ((repeat apply Exists.intro); exact ⟨⟨i + 1, by omega, by go_num, HREL.out⟩, rfl⟩)
              case measure => simp [intOf] <;> omega
            · have e1 : writeE si ((kf + i : Nat) : Int) zs.length = 22 := by unfold writeE; rw [HIN.out, if_neg (by simp), if_neg hb]
              have e2 : writeS si ((kf + i : Nat) : Int) zs = stepS si := by unfold writeS; rw [HIN.out, if_neg (by simp), if_neg hb]
              rw [e1] at hans
              rw [e2] at hst
              have hans0 := hans
              rcases hans with ⟨_, h⟩ | ⟨b, rfl, hb1, _, hb2⟩
              · cases h
              have hfin : Q (.returned (.iface 61 (.pointer (some ⟨b, 0, none⟩)))) w2 := by
                rw [EQ.out, HQz.out, HRUN.out, show n - i = (n - (i + 1)) + 1 by omega, zeroRun, if_neg hb]
                have hst2 := hst.comp HON.out HO'.out
                have hle := HBZ.out.size
                refine ⟨_, rfl, hans0.lo (Nat.le_trans hle HON.out.size), ?_⟩
                exact DStep.comp (OnlyP.ofBelow HBZ.out) (fun b hb => .inl hb) hst2
              have HF := Lib.hid hfin
              clear hfin hst hans0 hb1 hb2 e1 e2 hb
              go_wp2_with fail
              first | exact HF.out | (go_ret; exact HF.out)
          · obtain rfl : n = i := by omega
            have hfin : Q (.returned .nilIface) wr := by
              rw [EQ.out, HQz.out, HRUN.out, Nat.sub_self, zeroRun]
              have hst : DStep O wZ wr d si := ⟨HON.out, O', HDR.out, HO'.out⟩
              exact ⟨_, rfl, .inl ⟨rfl, rfl⟩, DStep.comp (OnlyP.ofBelow HBZ.out) (fun b hb => .inl hb) hst⟩
            have HF := Lib.hid hfin
            clear hfin
            go_wp2_with fail
            first | exact HF.out | (go_ret; exact HF.out)
end Go.Proofs.YtigfcoibbmndpaaGreat
