/- A power that fails is a cut: DiskCut, the walk. -/
import Derived.Test.YtigfcoibbmndpaaLwU
import Derived.Outline
namespace Go.Proofs.Ytigfcoibbmndpaa
open Go.RowKit
open Go.ChangeMaps
set_option linter.unusedVariables false
set_option linter.unusedSimpArgs false
theorem RunsR.below {w w1 : World} {v : Value} {rs : List RunV} (h : RunsR w v rs) (hb : Below w.heap.size w w1) : RunsR w1 v rs := by
  refine ⟨h.1, ?_⟩
  rcases h.2 with h | ⟨b, off, c, e, g1, g2, g3, g4⟩
  · exact .inl h
  · exact .inr ⟨b, off, c, e, g1, g2, Nat.lt_of_lt_of_le g3 hb.size, fun i hi => (g4 i hi).below g3 hb⟩
theorem RunR1.cells {w : World} {b off : Nat} {r : RunV} (h : RunR1 w b off r) : w.cell? ⟨b, off, none⟩ = some (.int .i64 r.kind) ∧ w.cell? ⟨b, off + 1, none⟩ = some (.int .i64 r.put.blk) ∧ w.cell? ⟨b, off + 2, none⟩ = some r.put.tv ∧ w.cell? ⟨b, off + 3, none⟩ = some (.bool r.put.past) ∧ w.cell? ⟨b, off + 4, none⟩ = some (.int .i64 r.len) := ⟨h.c0, h.p.c0, h.p.c1, h.p.c2, h.c4⟩
set_option maxHeartbeats 4000000 in
set_option maxRecDepth 100000 in
theorem cut_law (w : World) (nb sz st : Int) (ov rv kv : Value) (os : List OpV) (rs : List RunV) (ks : List Int) (ho : OpsR w ov os) (hr : RunsR w rv rs) (hs : I64 st) (hk : Rd .u8 w kv ks) (hkb : BytesL ks) (hkl : ks.length ≤ 9223372036854775807) :
    Calls Try.prog 5 #[.int .i64 nb, .int .i64 sz, ov, rv, .int .i64 st, kv] w fun e w' => e = .returned (.bool true) ∧ Below w.heap.size w w' := by
  obtain ⟨Q, eQ⟩ : ∃ Q : Ending → World → Prop, Q = fun e w' => e = .returned (.bool true) ∧ Below w.heap.size w w' := ⟨_, rfl⟩
  rw [← eQ]
  have EQ := Lib.hid eQ
  by_cases hu : Usable nb sz
  · have hub := usableB_yes hu
    have hus := usable_ok w nb sz
    rw [hub] at hus
    by_cases h0 : st < 0
    · have HUS := Lib.hid hus
      have HF := Lib.hid (show Q (.returned (.bool true)) w by rw [eQ]; exact ⟨rfl, Below.refl _ _⟩)
      have b0 : decide (st < 0) = true := decide_eq_true h0
      clear hus hu ho hr hk eQ hub
      go_enter Try.func5, Try.ntmps5
      go_wp2_with (go_at_call 10; with_reducible refine HUS.out.mono ?_; rintro e w' ⟨rfl, rfl⟩)
      first | exact HF.out | (go_ret; exact HF.out)
    obtain ⟨hu1, hu2, hu3⟩ := hu
    obtain ⟨nb, rfl⟩ : ∃ n : Nat, nb = n := ⟨nb.toNat, by omega⟩
    obtain ⟨sz, rfl⟩ : ∃ n : Nat, sz = n := ⟨sz.toNat, by omega⟩
    obtain ⟨st, rfl⟩ : ∃ n : Nat, st = n := ⟨st.toNat, by omega⟩
    have hsz : Size sz := by unfold Size; omega
    have hfr : ∀ W, Below w.heap.size w W → Calls Try.prog 11 #[.int .i64 nb, .int .i64 sz, ov] W (FreshQ W nb sz os) := fun W hW => freshD_ok W nb sz ov os (by omega) (by omega) hsz (ho.below hW)
    obtain ⟨f1, f2, f3, f4⟩ := freshS_facts nb sz os
    have hnb1 : 1 ≤ nb := by omega
    have hnb2 : nb ≤ 8192 := by omega
    have hsz1 : sz ≤ 1024 := by omega
    have hst9 : (st : Int) < 9223372036854775808 := i64_lt hs
    have b0 : decide ((st : Int) < 0) = false := decide_eq_false (by omega)
    obtain ⟨s0, es0⟩ : ∃ s0, s0 = freshS nb sz os := ⟨_, rfl⟩
    rw [← es0] at f1 f2 f3 f4
    unfold FreshQ at hfr
    rw [← es0] at hfr
    obtain ⟨Ak, ck, rfl⟩ := hk.slice
    obtain ⟨Ar, cr, rfl⟩ := hr.slice
    obtain ⟨L, eL⟩ : ∃ L, L = rs.length := ⟨_, rfl⟩
    have hL : L * 56 ≤ 140737488351232 := by rw [eL]; exact hr.1
    have EL := Lib.hid eL
    rw [← eL] at hr ⊢
    have HUS := Lib.hid hus
    have HFR := Lib.hid hfr
    have HFR1 := Lib.hid (hfr w (Below.refl _ _))
    have HRS := Lib.hid hr
    have HK := Lib.hid hk
    have HKB := Lib.hid hkb
    have HKL := Lib.hid hkl
    have F1 := Lib.hid f1
    have F2 := Lib.hid f2
    have F3 := Lib.hid f3
    have F4 := Lib.hid f4
    clear eQ hub hu1 hu2 hu3 hus hfr f1 f2 f3 f4 hr hk hkb hkl ho es0 hsz eL hs h0
    go_enter Try.func5, Try.ntmps5
    go_wp2_with (go_at_call 10; with_reducible refine HUS.out.mono ?_; rintro e w' ⟨rfl, rfl⟩)
    refine HFR1.out.mono ?_
    rintro e w1 ⟨d, O1, rfl, hd1, hO1, hb1⟩
    have hcur1 : Cur w w1 d s0 O1 := ⟨hd1, hO1, hb1⟩
    have HC1 := Lib.hid hcur1
    have HFR2 := Lib.hid (HFR.out w1 hb1)
    clear hcur1 hd1 hO1 hb1 HFR HFR1 HUS
    go_wp2_with fail
    refine HFR2.out.mono ?_
    rintro e w2 ⟨c, P2, rfl, hd2, hP2, hb2⟩
    have htwo := Two.mk' HC1.out hd2 hP2 hb2
    have hfu := fuse_ok O1 w2 d s0 st htwo.a.rep hst9
    have HT2 := Lib.hid htwo
    have HFU := Lib.hid hfu
    clear htwo hfu hd2 hP2 hb2 HC1 HFR2
    go_wp2_with fail
    refine HFU.out.mono ?_
    rintro e w3 ⟨rfl, hst3⟩
    obtain ⟨O3, ht3, _, _⟩ := HT2.out.stepA' hst3
    have hF : Fus (fuseS s0 st) s0 st := ⟨⟨rfl, rfl, rfl, rfl, rfl⟩, F3.out, F3.out.1, by show decide (0 ≤ (st : Int)) = true; exact decide_eq_true (by omega), by show max (st : Int) 0 = st; omega⟩
    obtain ⟨s1, es1⟩ : ∃ s1, s1 = fuseS s0 st := ⟨_, rfl⟩
    rw [← es1] at hF ht3
    have HN1 := Lib.hid (show s1.nb = nb by rw [es1]; exact F1.out)
    have HZ1 := Lib.hid (show s1.sz = sz by rw [es1]; exact F2.out)
    have HT3 := Lib.hid ht3
    have HF3 := Lib.hid hF
    clear ht3 hst3 hF es1 HT2 HFU
    go_wp2_with fail
    go_loopw [16, 17, 18, 19, 20, 21, 22] (fun a b g _ _ _ _ wr => ∃ (i rest : Nat) (off : Bool), i ≤ L ∧ a = .int .i64 rest ∧ b = .bool off ∧ g = .int .i64 i ∧ rest ≤ st ∧ ∃ s t O P, Two w wr d s O c t P ∧ CutI s t off rest ∧ (∀ k, (t.ca k).length ≤ i) ∧ s.nb = nb ∧ s.sz = sz) (fun _ _ g _ _ _ _ _ => L - (intOf g).toNat)
    case atStart => exact ⟨0, st, false, Nat.zero_le _, rfl, rfl, rfl, Nat.le_refl _, s1, s0, O3, P2, HT3.out, HF3.out, fun k => by rw [F4.out]; exact Nat.le_refl _, HN1.out, HZ1.out⟩
    case round =>
      obtain ⟨i, rest, off, hi, rfl, rfl, rfl, hrest, s, t, O, P, ht, hci, hcl, hn, hz⟩ := hrel
      have HT := Lib.hid ht
      have HCI := Lib.hid hci
      have HCL := Lib.hid hcl
      have HN := Lib.hid hn
      have HZ := Lib.hid hz
      have hbt : Base s t ∧ Live t := by
        unfold CutI at hci
        cases off
        · exact ⟨hci.b, hci.lt⟩
        · exact ⟨hci.2.b, hci.2.lt⟩
      have HBT := Lib.hid hbt
      clear ht hci hcl hn hz hbt HT3 HF3 HN1 HZ1
      by_cases hlt : i < L
      · obtain ⟨bb, of, rfl, hbb, hr0, hr1⟩ := HRS.out.at HT.out.a.bel (i := i) (by rw [← EL.out]; exact hlt)
        obtain ⟨r, er⟩ : ∃ r, r = rs.getD i r0 := ⟨_, rfl⟩
        rw [← er] at hr0 hr1
        obtain ⟨k0, k1, k2, k3, k4⟩ := hr1.cells
        obtain ⟨n, en⟩ : ∃ n, n = stepsN r nb := ⟨_, rfl⟩
        have hn8 : n ≤ 8192 := by
          rw [en]; unfold stepsN
          split
          · exact Nat.le_trans (Nat.min_le_right _ _) (by omega)
          · omega
        have hsp := steps_ok wr r nb hnb1 hnb2 hr1.p.rd
        rw [← en] at hsp
        unfold RunV.agg at hsp
        have HSP := Lib.hid hsp
        have HR0 := Lib.hid hr0
        have EN := Lib.hid en
        clear hr0 hr1 er en hsp
        go_wp2_with fail
        refine HSP.out.mono ?_
        rintro e w4 ⟨rfl, hb4⟩
        have ht4 := HT.out.below hb4
        obtain ⟨k0, k1, k2, k3, k4⟩ := (HR0.out.below hbb ht4.a.bel).cells
        have hrn := run_ok P w4 c t r rest ht4.b.rep (ht4.b.rd HR0.out.p.rd) HR0.out.p.ln HR0.out.i4 (fun k => by have := HCL.out k; omega)
        rw [HBT.out.1.nb, HBT.out.1.sz, HN.out, HZ.out] at hrn
        unfold RunV.agg at hrn
        have HT4 := Lib.hid ht4
        have HRC := Lib.hid hrn
        clear hb4 ht4 hrn HSP HT
        cases off
        · have hfus : Fus s t rest := HCI.out
          by_cases hfull : n ≤ rest
          · have hres : Fus (runR s r n).1 (runR t r rest).1 (rest - n) ∧ (runR s r n).2 = 0 ∧ (runR t r rest).2 = 0 := by
              have h := run_full r hfus (by rw [HN.out]; exact hnb1) (by rw [HN.out, ← EN.out]; exact hfull)
              rw [HN.out, ← EN.out] at h; exact h
            clear hfus
            have e2 := hres.2.2
            unfold RunQ at HRC
            rw [e2] at HRC
            have HRES := Lib.hid hres
            clear hres e2
            go_wp2_with fail
            refine HRC.out.mono ?_
            rintro e w5 ⟨rfl, hst5⟩
            obtain ⟨P5, ht5, _, _⟩ := HT4.out.stepB' hst5
            obtain ⟨k0, k1, k2, k3, k4⟩ := (HR0.out.below hbb ht5.a.bel).cells
            have hrd := run_ok O w5 d s r n ht5.a.rep (ht5.a.rd HR0.out.p.rd) HR0.out.p.ln HR0.out.i4 (fun k => by rw [← HBT.out.1.ca]; have := HCL.out k; omega)
            rw [HN.out, HZ.out] at hrd
            unfold RunQ at hrd
            rw [HRES.out.2.1] at hrd
            unfold RunV.agg at hrd
            have hgt := runR_grows t r rest
            obtain ⟨t5, et5⟩ : ∃ t5, t5 = (runR t r rest).1 := ⟨_, rfl⟩
            rw [← et5] at ht5 hgt
            have HGT := Lib.hid hgt
            have HT5 := Lib.hid ht5
            have ET5 := Lib.hid et5
            have HRD := Lib.hid hrd
            clear hst5 ht5 hrd hgt et5 HRC HT4
            go_wp2_with fail
            refine HRD.out.mono ?_
            rintro e w6 ⟨rfl, hst6⟩
            obtain ⟨O6, ht6, _, _⟩ := HT5.out.stepA' hst6
            have hgs := runR_grows s r n
            have hres := HRES.out.1
            rw [← ET5.out] at hres
            obtain ⟨s6, es6⟩ : ∃ s6, s6 = (runR s r n).1 := ⟨_, rfl⟩
            rw [← es6] at ht6 hgs hres
            have hon : Calls Try.prog 24 #[.pointer (some ⟨d, 0, none⟩)] w6 fun e w' => e = .returned (.bool true) ∧ w6 = w' := by
              obtain ⟨m, c', hb⟩ := blkD ht6.a.rep
              have h := on_ok w6 d m c' s6 hb
              rw [hres.off] at h
              exact h
            have hrel : ∃ s t O P, Two w w6 d s O c t P ∧ CutI s t false (rest - n) ∧ (∀ k, (t.ca k).length ≤ i + 1) ∧ s.nb = nb ∧ s.sz = sz := ⟨s6, t5, O6, P5, ht6, hres, fun k => by have h1 := HGT.out.2.2 k; have h2 := HCL.out k; omega, hgs.1.trans HN.out, hgs.2.1.trans HZ.out⟩
            have HREL := Lib.hid hrel
            have HON := Lib.hid hon
            clear hst6 ht6 hgs hres hon hrel es6 HRD HT5 k0 k1 k2 k3 k4
            have b1 : (n : Int) ≤ rest := by omega
            have hbd : decide ((rest : Int) < n) = false := decide_eq_false (by omega)
            obtain ⟨q, eq⟩ : ∃ q : Nat, q = rest - n := ⟨_, rfl⟩
            rw [← eq] at HREL
            have m1 : IntKind.i64.wrap ((rest : Int) - n) = (q : Int) := by rw [IntWalk.i64_in _ (by omega)]; omega
            have HQ := Lib.hid (show q ≤ st by omega)
            clear hfull eq hst9 hrest hbd
            go_wp2_with fail
            refine HON.out.mono ?_
            rintro e w' ⟨rfl, rfl⟩
            go_wp2_with fail
            go_roundw
            case rel => exact ⟨i + 1, q, false, by omega, rfl, rfl, by go_num, HQ.out, HREL.out⟩
            case measure => simp [intOf] <;> omega
          · have hres : Cutt (runR s r n).1 (runR t r rest).1 ∧ (runR s r n).2 = 22 ∧ (runR t r rest).2 = 0 := by
              have h := run_cut r hfus (by rw [HN.out]; exact hnb1) (by rw [HN.out, ← EN.out]; omega)
              rw [HN.out, ← EN.out] at h; exact h
            clear hfus
            have e2 := hres.2.2
            unfold RunQ at HRC
            rw [e2] at HRC
            have HRES := Lib.hid hres
            clear hres e2
            go_wp2_with fail
            refine HRC.out.mono ?_
            rintro e w5 ⟨rfl, hst5⟩
            obtain ⟨P5, ht5, _, _⟩ := HT4.out.stepB' hst5
            obtain ⟨k0, k1, k2, k3, k4⟩ := (HR0.out.below hbb ht5.a.bel).cells
            have hrd := run_ok O w5 d s r n ht5.a.rep (ht5.a.rd HR0.out.p.rd) HR0.out.p.ln HR0.out.i4 (fun k => by rw [← HBT.out.1.ca]; have := HCL.out k; omega)
            rw [HN.out, HZ.out] at hrd
            unfold RunQ at hrd
            rw [HRES.out.2.1] at hrd
            unfold RunV.agg at hrd
            have hgt := runR_grows t r rest
            obtain ⟨t5, et5⟩ : ∃ t5, t5 = (runR t r rest).1 := ⟨_, rfl⟩
            rw [← et5] at ht5 hgt
            have HGT := Lib.hid hgt
            have HT5 := Lib.hid ht5
            have ET5 := Lib.hid et5
            have HRD := Lib.hid hrd
            clear hst5 ht5 hrd hgt et5 HRC HT4
            go_wp2_with fail
            refine HRD.out.mono ?_
            rintro e w6 ⟨rfl, hst6⟩
            obtain ⟨O6, ht6, _, _⟩ := HT5.out.stepA' hst6
            have hgs := runR_grows s r n
            have hres := HRES.out.1
            rw [← ET5.out] at hres
            obtain ⟨s6, es6⟩ : ∃ s6, s6 = (runR s r n).1 := ⟨_, rfl⟩
            rw [← es6] at ht6 hgs hres
            have hon : Calls Try.prog 24 #[.pointer (some ⟨d, 0, none⟩)] w6 fun e w' => e = .returned (.bool false) ∧ w6 = w' := by
              obtain ⟨m, c', hb⟩ := blkD ht6.a.rep
              have h := on_ok w6 d m c' s6 hb
              rw [hres.off] at h
              exact h
            have hrel : ∃ s t O P, Two w w6 d s O c t P ∧ CutI s t true 0 ∧ (∀ k, (t.ca k).length ≤ i + 1) ∧ s.nb = nb ∧ s.sz = sz := ⟨s6, t5, O6, P5, ht6, ⟨rfl, hres⟩, fun k => by have h1 := HGT.out.2.2 k; have h2 := HCL.out k; omega, hgs.1.trans HN.out, hgs.2.1.trans HZ.out⟩
            have HREL := Lib.hid hrel
            have HON := Lib.hid hon
            clear hst6 ht6 hgs hres hon hrel es6 HRD HT5 k0 k1 k2 k3 k4
            have b1 : (rest : Int) < n := by omega
            clear hfull
            go_wp2_with fail
            refine HON.out.mono ?_
            rintro e w' ⟨rfl, rfl⟩
            go_wp2_with fail
            go_roundw
            case rel => exact ⟨i + 1, 0, true, by omega, rfl, rfl, by go_num, by omega, HREL.out⟩
            case measure => simp [intOf] <;> omega
        · obtain ⟨hr00, hcut⟩ : rest = 0 ∧ Cutt s t := HCI.out
          subst hr00
          have hres : Cutt (runR s r n).1 (runR t r 0).1 ∧ (runR s r n).2 = 22 ∧ (runR t r 0).2 = 0 := by
            have h := run_off r hcut (by rw [HN.out]; exact hnb1)
            rw [HN.out, ← EN.out] at h; exact h
          clear hcut
          have e2 := hres.2.2
          unfold RunQ at HRC
          rw [e2] at HRC
          have HRES := Lib.hid hres
          clear hres e2
          go_wp2_with fail
          refine HRC.out.mono ?_
          rintro e w5 ⟨rfl, hst5⟩
          obtain ⟨P5, ht5, _, _⟩ := HT4.out.stepB' hst5
          obtain ⟨k0, k1, k2, k3, k4⟩ := (HR0.out.below hbb ht5.a.bel).cells
          have hrd := run_ok O w5 d s r n ht5.a.rep (ht5.a.rd HR0.out.p.rd) HR0.out.p.ln HR0.out.i4 (fun k => by rw [← HBT.out.1.ca]; have := HCL.out k; omega)
          rw [HN.out, HZ.out] at hrd
          unfold RunQ at hrd
          rw [HRES.out.2.1] at hrd
          unfold RunV.agg at hrd
          have hgt := runR_grows t r 0
          obtain ⟨t5, et5⟩ : ∃ t5, t5 = (runR t r 0).1 := ⟨_, rfl⟩
          rw [← et5] at ht5 hgt
          have HGT := Lib.hid hgt
          have HT5 := Lib.hid ht5
          have ET5 := Lib.hid et5
          have HRD := Lib.hid hrd
          clear hst5 ht5 hrd hgt et5 HRC HT4
          go_wp2_with fail
          refine HRD.out.mono ?_
          rintro e w6 ⟨rfl, hst6⟩
          obtain ⟨O6, ht6, _, _⟩ := HT5.out.stepA' hst6
          have hgs := runR_grows s r n
          have hres := HRES.out.1
          rw [← ET5.out] at hres
          obtain ⟨s6, es6⟩ : ∃ s6, s6 = (runR s r n).1 := ⟨_, rfl⟩
          rw [← es6] at ht6 hgs hres
          have hon : Calls Try.prog 24 #[.pointer (some ⟨d, 0, none⟩)] w6 fun e w' => e = .returned (.bool false) ∧ w6 = w' := by
            obtain ⟨m, c', hb⟩ := blkD ht6.a.rep
            have h := on_ok w6 d m c' s6 hb
            rw [hres.off] at h
            exact h
          have hrel : ∃ s t O P, Two w w6 d s O c t P ∧ CutI s t true 0 ∧ (∀ k, (t.ca k).length ≤ i + 1) ∧ s.nb = nb ∧ s.sz = sz := ⟨s6, t5, O6, P5, ht6, ⟨rfl, hres⟩, fun k => by have h1 := HGT.out.2.2 k; have h2 := HCL.out k; omega, hgs.1.trans HN.out, hgs.2.1.trans HZ.out⟩
          have HREL := Lib.hid hrel
          have HON := Lib.hid hon
          clear hst6 ht6 hgs hres hon hrel es6 HRD HT5 k0 k1 k2 k3 k4

          go_wp2_with fail
          refine HON.out.mono ?_
          rintro e w' ⟨rfl, rfl⟩
          go_wp2_with fail
          go_roundw
          case rel => exact ⟨i + 1, 0, true, by omega, rfl, rfl, by go_num, by omega, HREL.out⟩
          case measure => simp [intOf] <;> omega
      · obtain rfl : L = i := by omega
        have hcr := crash_ok O wr d s _ ks HT.out.a.rep (HT.out.a.rd HK.out) HKB.out HKL.out (fun k => by rw [← HBT.out.1.ca]; have := HCL.out k; omega)
        have HCR := Lib.hid hcr
        clear hcr
        go_wp2_with fail
        refine HCR.out.mono ?_
        rintro e w4 ⟨rfl, hst4⟩
        obtain ⟨O4, ht4, _, _⟩ := HT.out.stepA' hst4
        have hcr := crash_ok P w4 c t _ ks ht4.b.rep (ht4.b.rd HK.out) HKB.out HKL.out (fun k => by have := HCL.out k; omega)
        have HT4 := Lib.hid ht4
        have HCR4 := Lib.hid hcr
        clear hst4 ht4 hcr HCR HT
        go_wp2_with fail
        refine HCR4.out.mono ?_
        rintro e w5 ⟨rfl, hst5⟩
        obtain ⟨P5, ht5, _, _⟩ := HT4.out.stepB' hst5
        have hal := HBT.out.1.crash ks
        obtain ⟨sC, esC⟩ : ∃ sC, sC = crashS s ks := ⟨_, rfl⟩
        obtain ⟨tC, etC⟩ : ∃ tC, tC = crashS t ks := ⟨_, rfl⟩
        have hcaC : ∀ k, sC.ca k = [] := fun k => by rw [esC]; rfl
        have hcaD : ∀ k, tC.ca k = [] := fun k => by rw [etC]; rfl
        have hnC : sC.nb = nb := by rw [esC]; exact HN.out
        have hoC : sC.off = false := by rw [esC]; rfl
        rw [← esC, ← etC] at hal ht5
        have hnD : tC.nb = nb := hal.nb.trans hnC
        have hse := seen_ok O4 w5 d sC ht5.a.rep (fun k => by rw [hcaC k]; simp)
        rw [hnC] at hse
        have HT5 := Lib.hid ht5
        have HAL := Lib.hid hal
        have HCAC := Lib.hid hcaC
        have HCAD := Lib.hid hcaD
        have HNC := Lib.hid hnC
        have HND := Lib.hid hnD
        have HOC := Lib.hid hoC
        have HSE := Lib.hid hse
        clear hst5 ht5 hal hcaC hcaD hnC hnD hoC hse esC etC HCR4 HT4
        go_wp2_with fail
        refine HSE.out.mono ?_
        rintro e w6 ⟨bva, eva, ca, rfl, hsva, hona, hda⟩
        rw [HNC.out] at hsva
        obtain ⟨Vsa, hVa, _⟩ := hsva.b
        obtain ⟨gBa, qa, rfl, _, _⟩ := own_at hVa (by omega)
        obtain ⟨gEa, ra, rfl, _, _⟩ := own_at hsva.e (by omega)
        obtain ⟨wA, ewA⟩ : ∃ wA, wA = w6.alloc (.cells #[.slice (some ⟨gBa, 0, none⟩) nb qa, .slice (some ⟨gEa, 0, none⟩) nb ra] 35) := ⟨_, rfl⟩
        have hbA : Below w6.heap.size w6 wA := by rw [ewA]; exact (Below.refl _ _).alloc (Nat.le_refl _) _
        have hblA : Blk wA w6.heap.size 35 #[.slice (some ⟨gBa, 0, none⟩) nb qa, .slice (some ⟨gEa, 0, none⟩) nb ra] := by rw [ewA]; exact Blk.new _ _ _
        have hszA : wA.heap.size = w6.heap.size + 1 := by rw [ewA]; simp
        obtain ⟨sD, esD⟩ : ∃ sD, sD = withC0 sC ca := ⟨_, rfl⟩
        have hta := (HT5.out.sameA hona hda).below hbA
        rw [← esD] at hta
        have hald : Alike sC sD := by rw [esD]; exact withC0_alike _ _
        have ka := Kept.start (w := w) (w0 := wA) (O := O4) (P := P5) w5.heap.size (fun b hb => HT5.out.a.rep.lt hb) (fun b hb => HT5.out.b.rep.lt hb)
        have hse := seen_ok P5 wA c tC hta.b.rep (fun k => by rw [HCAD.out k]; simp)
        rw [HND.out] at hse
        have EWA := Lib.hid ewA
        have HSVA := Lib.hid (hsva.below hbA)
        have HBLA := Lib.hid hblA
        have HSZA := Lib.hid hszA
        have HONA := Lib.hid hona
        have HALD := Lib.hid hald
        have HTA := Lib.hid hta
        have HKA := Lib.hid ka
        have HSE2 := Lib.hid hse
        clear hVa hsva hona hda hbA hblA hszA hald hta ka hse ewA esD HSE
        go_wp2_with fail
        rw [← EWA.out]
        refine HSE2.out.mono ?_
        rintro e w7 ⟨bvb, evb, cb, rfl, hsvb, honb, hdb⟩
        rw [HND.out] at hsvb
        obtain ⟨Vsb, hVb, _⟩ := hsvb.b
        obtain ⟨gBb, qb, rfl, _, _⟩ := own_at hVb (by omega)
        obtain ⟨gEb, rb, rfl, _, _⟩ := own_at hsvb.e (by omega)
        obtain ⟨wB, ewB⟩ : ∃ wB, wB = w7.alloc (.cells #[.slice (some ⟨gBb, 0, none⟩) nb qb, .slice (some ⟨gEb, 0, none⟩) nb rb] 35) := ⟨_, rfl⟩
        have hbB : Below w7.heap.size w7 wB := by rw [ewB]; exact (Below.refl _ _).alloc (Nat.le_refl _) _
        have hblB : Blk wB w7.heap.size 35 #[.slice (some ⟨gBb, 0, none⟩) nb qb, .slice (some ⟨gEb, 0, none⟩) nb rb] := by rw [ewB]; exact Blk.new _ _ _
        have hszB : wB.heap.size = w7.heap.size + 1 := by rw [ewB]; simp
        obtain ⟨tD, etD⟩ : ∃ tD, tD = withC0 tC cb := ⟨_, rfl⟩
        have hale : Alike tC tD := by rw [etD]; exact withC0_alike _ _
        have htb := (HTA.out.sameB honb hdb).below hbB
        rw [← etD] at htb
        have ka := (HKA.out.stepB honb (fun b hb => .inl hb)).below hbB
        have va := HSVA.out.kept ka rfl
        have vb := hsvb.below hbB
        have z3 := HSZA.out
        have z4 := HONA.out.size
        have ba := ka.blk HBLA.out (by omega) (by omega)
        have hlen : ∀ j, j < nb → (readX sC j).length ≤ 1024 := fun j hj => readX_len HT5.out.a.rep.wf HCAC.out j (by rw [HNC.out]; exact hj)
        have hs1 := sameSeen_ok _ _ wB _ _ _ _ nb _ _ _ _ va vb hnb2 hlen (fun j _ => (HAL.out.readX j).symm) (fun j _ => (HAL.out.readE j).symm)
        have k0 : wB.cell? ⟨w6.heap.size, 0, none⟩ = some (.slice (some ⟨gBa, 0, none⟩) nb qa) := ba.cell 0
        have k1 : wB.cell? ⟨w6.heap.size, 1, none⟩ = some (.slice (some ⟨gEa, 0, none⟩) nb ra) := ba.cell 1
        have k2 : wB.cell? ⟨w7.heap.size, 0, none⟩ = some (.slice (some ⟨gBb, 0, none⟩) nb qb) := hblB.cell 0
        have k3 : wB.cell? ⟨w7.heap.size, 1, none⟩ = some (.slice (some ⟨gEb, 0, none⟩) nb rb) := hblB.cell 1
        have EWB := Lib.hid ewB
        have HS1 := Lib.hid hs1
        have HTB := Lib.hid htb
        have HALE := Lib.hid hale
        rw [ewB] at k0 k1 k2 k3
        clear hVb hsvb honb hdb hbB hblB hszB hale htb ka va vb z3 z4 ba hlen hs1 ewB etD HSE2 EWA HTA HKA
        go_wp2_with fail
        rw [← EWB.out]
        refine HS1.out.mono ?_
        rintro e w8 ⟨rfl, hb8⟩
        have ht8 := HTB.out.below hb8
        have him := image_ok O4 w8 d sD ht8.a.rep
        have HT8 := Lib.hid ht8
        have HIM := Lib.hid him
        clear hb8 ht8 him HS1 HTB k0 k1 k2 k3 EWB
        go_wp2_with fail
        refine HIM.out.mono ?_
        rintro e w9 ⟨x9, rfl, hx9, hon9, hd9⟩
        have ht9 := HT8.out.sameA hon9 hd9
        have him := image_ok P5 w9 c tD ht9.b.rep
        have HX9 := Lib.hid hx9
        have HT9 := Lib.hid ht9
        have HIM9 := Lib.hid him
        clear hx9 hon9 hd9 ht9 him HIM
        go_wp2_with fail
        refine HIM9.out.mono ?_
        rintro e w10 ⟨y10, rfl, hy10, hon10, hd10⟩
        have ht10 := HT9.out.sameB hon10 hd10
        have himg : imgL tD tD.nb = imgL sD sD.nb := by rw [HALE.out.img, HAL.out.img, HALD.out.img]
        rw [himg] at hy10
        have hwf := HT9.out.a.rep.wf
        have hil : (imgL sD sD.nb).length ≤ 8388608 := by
          rw [imgL_len hwf _ (Nat.le_refl _)]
          exact Nat.le_trans (Nat.mul_le_mul hwf.nb2 hwf.sz1) (by decide)
        have hx10 : Rd .u8 w10 x9 (imgL sD sD.nb) := own_rd (own_only2 HX9.out hon10 (fun g hg _ hc => by have := HT8.out.b.rep.lt hc; omega)) rfl
        have hy10' : Rd .u8 w10 y10 (imgL sD sD.nb) := own_rd hy10 rfl
        have hsb := sameB_ok _ _ _ _ w10 hx10 hy10' (by unfold maxLen; omega) (by unfold maxLen; omega)
        rw [show decide (imgL sD sD.nb = imgL sD sD.nb) = true from decide_eq_true rfl] at hsb
        obtain ⟨Ax, nx, qx, rfl⟩ := own_slice HX9.out
        obtain ⟨Ay, ny, qy, rfl⟩ := own_slice hy10
        have hon : ∀ m, Calls Try.prog 24 #[.pointer (some ⟨d, 0, none⟩)] (w10.drewN m) fun e w' => e = .returned (.bool true) ∧ w10.drewN m = w' := fun m => by
          obtain ⟨m', c', hb⟩ := blkD (ht10.a.rep.drewN m)
          have h := on_ok (w10.drewN m) d m' c' sD hb
          rw [show sD.off = false from HALD.out.off.trans HOC.out] at h
          exact h
        have hfin : ∀ m, Q (.returned (.bool true)) (w10.drewN m) := fun m => by
          rw [EQ.out]
          exact ⟨rfl, below_drewN ht10.a.bel m⟩
        have HSB := Lib.hid hsb
        have HON := Lib.hid hon
        have HFIN := Lib.hid hfin
        clear hy10 hon10 hd10 ht10 himg hwf hil hx10 hy10' hsb hon hfin HIM9 HX9
        go_wp2_with fail
        refine HSB.out.mono ?_
        rintro e w11 ⟨m11, rfl, hw11⟩
        have HON11 := Lib.hid (HON.out m11)
        have HF11 := Lib.hid (HFIN.out m11)
        rw [← hw11] at HON11 HF11
        clear hw11 HON HFIN HSB
        go_wp2_with fail
        refine HON11.out.mono ?_
        rintro e w' ⟨rfl, rfl⟩
        go_wp2_with fail
        first | exact HF11.out | (go_ret; exact HF11.out)
  · have hus := usable_ok w nb sz
    rw [usableB_no hu] at hus
    have HUS := Lib.hid hus
    have HF := Lib.hid (show Q (.returned (.bool true)) w by rw [eQ]; exact ⟨rfl, Below.refl _ _⟩)
    clear hus hu ho hr hk eQ
    go_enter Try.func5, Try.ntmps5
    go_wp2_with (go_at_call 10; with_reducible refine HUS.out.mono ?_; rintro e w' ⟨rfl, rfl⟩)
    first | exact HF.out | (go_ret; exact HF.out)
end Go.Proofs.Ytigfcoibbmndpaa
