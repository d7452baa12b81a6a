/- The crash's promise: DiskCrashKeeps, the walk. -/
import Derived.Test.YtigfcoibbmndpaaLwW
import Derived.Outline
import Derived.Deep.RegionWith
import Derived.Deep.RegionHeld3
namespace Go.Proofs.Ytigfcoibbmndpaa
open Go.RowKit
open Go.ChangeMaps
set_option linter.unusedVariables false
set_option linter.unusedSimpArgs false
theorem SeenV.cells {lo n gB q1 gE q2 : Nat} {w : World} {xs : Nat → List Int} {es : Nat → Int} (h : SeenV lo w (.slice (some ⟨gB, 0, none⟩) n q1) (.slice (some ⟨gE, 0, none⟩) n q2) n xs es) {k : Nat} (hk : k < n) :
    ∃ v, ∀ W, Below w.heap.size w W → W.cell? ⟨gB, k, none⟩ = some v ∧ W.cell? ⟨gE, k, none⟩ = some (.int .i64 (es k)) ∧ Rd .u8 W v (xs k) := by
  obtain ⟨Vs, hV, hVs⟩ := h.b
  obtain ⟨g1, c1, e1, hg1, hc1⟩ := own_at hV (by omega)
  obtain ⟨g2, c2, e2, hg2, hc2⟩ := own_at h.e (by omega)
  simp only [Value.slice.injEq, Option.some.injEq, Addr.mk.injEq] at e1 e2
  obtain ⟨⟨rfl, _⟩, _, _⟩ := e1
  obtain ⟨⟨rfl, _⟩, _, _⟩ := e2
  obtain ⟨v, h1, h2⟩ := hVs k hk
  refine ⟨v, fun W hW => ⟨?_, ?_, (h2.below hW).rd⟩⟩
  · exact (cell_of_heap (hW.block _ hg1) k).trans ((hc1 k hk).trans h1)
  · refine (cell_of_heap (hW.block _ hg2) k).trans ((hc2 k hk).trans ?_)
    simp [hk]
theorem info_put : (Try.prog.info? 38).map (fun i => (i.zero, i.size, i.bytes)) = some (some (.agg #[.int .i64 0, .slice none 0 0, .bool false]), 3, 40) := by kernel_rfl
set_option maxHeartbeats 4000000 in
set_option maxRecDepth 100000 in
theorem keeps_law (w : World) (nb sz : Int) (ov pv kv : Value) (os : List OpV) (ps : List PutV) (ks : List Int) (ho : OpsR w ov os) (hp : PutsR w pv ps) (hk : Rd .u8 w kv ks) (hkb : BytesL ks) (hkl : ks.length ≤ 9223372036854775807) :
    Calls Try.prog 4 #[.int .i64 nb, .int .i64 sz, ov, pv, kv] w fun e w' => e = .returned (.bool true) ∧ Below w.heap.size w w' := by
  obtain ⟨Q, eQ⟩ : ∃ Q : Ending → World → Prop, Q = fun e w' => e = .returned (.bool true) ∧ Below w.heap.size w w' := ⟨_, rfl⟩
  rw [← eQ]
  have EQ := Lib.hid eQ
  by_cases hu : Usable nb sz
  · have hub := usableB_yes hu
    obtain ⟨hu1, hu2, hu3⟩ := hu
    obtain ⟨nb, rfl⟩ : ∃ n : Nat, nb = n := ⟨nb.toNat, by omega⟩
    obtain ⟨sz, rfl⟩ : ∃ n : Nat, sz = n := ⟨sz.toNat, by omega⟩
    have hsz : Size sz := by unfold Size; omega
    have hus := usable_ok w nb sz
    rw [hub] at hus
    have hfr := freshD_ok w nb sz ov os (by omega) (by omega) hsz ho
    obtain ⟨f1, f2, f3, f4⟩ := freshS_facts nb sz os
    have hnb1 : 1 ≤ nb := by omega
    have hnb2 : nb ≤ 8192 := by omega
    have hsz1 : sz ≤ 1024 := by omega
    obtain ⟨s0, es0⟩ : ∃ s0, s0 = freshS nb sz os := ⟨_, rfl⟩
    rw [← es0] at f1 f2 f3 f4
    unfold FreshQ at hfr
    rw [← es0] at hfr
    obtain ⟨Ak, ck, rfl⟩ := hk.slice
    obtain ⟨Ap, cp, rfl⟩ := hp.slice
    obtain ⟨L, eL⟩ : ∃ L, L = ps.length := ⟨_, rfl⟩
    have hL : L * 40 ≤ 140737488351232 := by rw [eL]; exact hp.1
    have EL := Lib.hid eL
    rw [← eL] at hp ⊢
    have HUS := Lib.hid hus
    have HFR := Lib.hid hfr
    have HP := Lib.hid hp
    have HK := Lib.hid hk
    have HKB := Lib.hid hkb
    have HKL := Lib.hid hkl
    have F1 := Lib.hid f1
    have F2 := Lib.hid f2
    have F3 := Lib.hid f3
    have F4 := Lib.hid f4
    clear eQ hub hu1 hu2 hu3 hus hfr f1 f2 f3 f4 hp hk hkb hkl ho es0 hsz eL
    go_enter Try.func4, Try.ntmps4
    go_wp2_with (go_at_call 10; with_reducible refine HUS.out.mono ?_; rintro e w' ⟨rfl, rfl⟩)
    refine HFR.out.mono ?_
    rintro e w1 ⟨d, O1, rfl, hd1, hO1, hb1⟩
    have hcur1 : Cur w w1 d s0 O1 := ⟨hd1, hO1, hb1⟩
    have hse := seen_ok O1 w1 d s0 hd1 (fun k => by rw [F4.out]; simp)
    rw [F1.out] at hse
    have HC1 := Lib.hid hcur1
    have HSE := Lib.hid hse
    clear hcur1 hse hd1 hO1 hb1 HFR HUS
    go_wp2_with fail
    refine HSE.out.mono ?_
    rintro e w2 ⟨bva, eva, ca, rfl, hsva, hona, hda⟩
    rw [F1.out] at hsva
    obtain ⟨Vsa, hVa, _⟩ := hsva.b
    obtain ⟨gBa, qa, rfl, _, _⟩ := own_at hVa (by omega)
    obtain ⟨gEa, ra, rfl, _, _⟩ := own_at hsva.e (by omega)
    obtain ⟨wA, ewA⟩ : ∃ wA, wA = w2.alloc (.cells #[.slice (some ⟨gBa, 0, none⟩) nb qa, .slice (some ⟨gEa, 0, none⟩) nb ra] 35) := ⟨_, rfl⟩
    have hbA : Below w2.heap.size w2 wA := by rw [ewA]; exact (Below.refl _ _).alloc (Nat.le_refl _) _
    have hblA : Blk wA w2.heap.size 35 #[.slice (some ⟨gBa, 0, none⟩) nb qa, .slice (some ⟨gEa, 0, none⟩) nb ra] := by rw [ewA]; exact Blk.new _ _ _
    have hszA : wA.heap.size = w2.heap.size + 1 := by rw [ewA]; simp
    obtain ⟨sA, esA⟩ : ∃ sA, sA = withC0 s0 ca := ⟨_, rfl⟩
    have hcA := (HC1.out.same hona hda).below hbA
    rw [← esA] at hcA
    have hwA : Wrote s0 sA [] := by rw [esA]; exact Wrote.start (withC0_alike _ _) F4.out F3.out
    have ka := Kept.start (w := w) (w0 := wA) (O := O1) (P := fun _ => False) w1.heap.size (fun b hb => HC1.out.rep.lt hb) (fun b hb => hb.elim)
    have EWA := Lib.hid ewA
    have HSVA := Lib.hid (hsva.below hbA)
    have HBLA := Lib.hid hblA
    have HSZA := Lib.hid hszA
    have HONA := Lib.hid hona.size
    have HCA := Lib.hid hcA
    have HWA := Lib.hid hwA
    have HKA := Lib.hid ka
    clear hVa hsva hona hda hbA hblA hszA hcA hwA ka ewA esA HSE
    go_wp2_with fail
    rw [← EWA.out]
    go_loopw [14, 15, 16, 17] (fun b _ _ _ wr => ∃ i : Nat, i ≤ L ∧ b = .int .i64 i ∧ ∃ s O, Cur w wr d s O ∧ Wrote s0 s (ps.take i) ∧ Kept w1.heap.size wA.heap.size wA wr O (fun _ => False)) (fun b _ _ _ _ => L - (intOf b).toNat)
    case atStart => exact ⟨0, Nat.zero_le _, rfl, sA, O1, HCA.out, HWA.out, HKA.out⟩
    case round =>
      obtain ⟨i, hi, rfl, s, O, hcur, hwr, hkp⟩ := hrel
      have HC := Lib.hid hcur
      have HW := Lib.hid hwr
      have HKP := Lib.hid hkp
      clear hcur hwr hkp HCA HWA HKA EWA
      by_cases hlt : i < L
      · obtain ⟨bb, off, rfl, hbb, hp0, hp1⟩ := HP.out.at HC.out.bel (i := i) (by rw [← EL.out]; exact hlt)
        obtain ⟨p, ep⟩ : ∃ p, p = ps.getD i p0 := ⟨_, rfl⟩
        rw [← ep] at hp0 hp1
        have k0 := hp1.c0
        have k1 := hp1.c1
        have k2 := hp1.c2
        have hsn : Wrote s0 (pushS s (p.at nb) (padF p.txt sz)) (ps.take (i + 1)) := by
          have h := HW.out.put p
          rw [F1.out, F2.out] at h
          rw [take_snoc ps i (by rw [← EL.out]; exact hlt), ← ep]; exact h
        have hKn : p.at nb < nb := p.at_lt hnb1
        obtain ⟨K, eK⟩ : ∃ K, K = p.at nb := ⟨_, rfl⟩
        have hbk := block_ok wr p nb hnb1 hnb2
        rw [← eK] at hbk hsn hKn
        unfold PutV.agg at hbk
        have hby : ∀ W, Below w.heap.size w W → Calls Try.prog 18 #[.agg #[.int .i64 p.blk, p.tv, .bool p.past], .int .i64 sz] W (BytesQ W sz p.txt) := fun W hW => bytes_ok W p sz hsz1 (hp0.rd.below hW) hp0.ln
        have hpc : ∀ W, Below w.heap.size w W → W.cell? ⟨bb, off + i * 3, none⟩ = some (.int .i64 p.blk) ∧ W.cell? ⟨bb, off + i * 3 + 1, none⟩ = some p.tv ∧ W.cell? ⟨bb, off + i * 3 + 2, none⟩ = some (.bool p.past) := fun W hW => let h := hp0.below hbb hW; ⟨h.c0, h.c1, h.c2⟩
        have HBK := Lib.hid hbk
        have HBY := Lib.hid hby
        have HPC := Lib.hid hpc
        have HSN := Lib.hid hsn
        clear hp0 hp1 ep hbk hby hpc hsn eK
        go_wp2_with fail
        refine HBK.out.mono ?_
        rintro e w4 ⟨rfl, hb4⟩
        have hc4 := HC.out.below hb4
        obtain ⟨k0, k1, k2⟩ := HPC.out w4 hc4.bel
        have HC4 := Lib.hid hc4
        have HBY4 := Lib.hid (HBY.out w4 hc4.bel)
        have HKP4 := Lib.hid (HKP.out.below hb4)
        clear hb4 hc4 HBK HC HKP
        go_wp2_with fail
        refine HBY4.out.mono ?_
        rintro e w5 ⟨B5, rfl, hB5, hrow5, hb5⟩
        have hc5 := HC4.out.below hb5
        have hrn : RdN O w5 (.slice (some ⟨B5, 0, none⟩) sz sz) (padF p.txt sz) := by
          refine ⟨?_, fun b off n c he _ hb => ?_⟩
          · have := hrow5.rd (padF p.txt sz) sz (by rw [padF_len]; exact Nat.le_refl _) (by rw [padF_len]; exact Nat.le_refl _) (fun i hi => rfl)
            rw [padF_len] at this; exact this
          · simp only [Value.slice.injEq, Option.some.injEq, Addr.mk.injEq] at he
            have := HC4.out.rep.lt hb
            omega
        have hKs : K < s.nb := by rw [HW.out.nb, F1.out]; exact hKn
        have hzs : s.sz = sz := by rw [HW.out.sz, F2.out]
        have hwo := write_ok O w5 d s K _ (padF p.txt sz) hc5.rep hrn (by
          rw [HW.out.ca, List.length_map]
          have := mine_len (ps.take i) s0.nb ((K : Int)).toNat
          rw [List.length_take] at this
          omega)
        obtain ⟨q1, q2, _⟩ := write_live HW.out.lv hKs (xs := padF p.txt sz) (by rw [padF_len, hzs])
        rw [q1, q2] at hwo
        obtain ⟨rp1, rp2⟩ := read_pushed HW.out.lv hKs (padF p.txt sz)
        obtain ⟨s5, es5⟩ : ∃ s5, s5 = pushS s K (padF p.txt sz) := ⟨_, rfl⟩
        rw [← es5] at hwo rp1 rp2 HSN
        have HC5 := Lib.hid hc5
        have HWO := Lib.hid hwo
        have RP1 := Lib.hid rp1
        have RP2 := Lib.hid rp2
        have HKP5 := Lib.hid (HKP4.out.below hb5)
        clear hB5 hrow5 hb5 hc5 hrn hKs hzs hwo q1 q2 rp1 rp2 es5 k0 k1 k2 HBY4 HC4 HKP4
        go_wp2_with fail
        refine HWO.out.mono ?_
        rintro e w6 ⟨er, rfl, hans, hst6⟩
        obtain rfl := hans.nil rfl
        obtain ⟨O6, hc6, hO6, ho6⟩ := HC5.out.step hst6
        have hrd := read_ok O6 w6 d s5 K hc6.rep (by
          rw [HSN.out.ca, List.length_map]
          have := mine_len (ps.take (i + 1)) s0.nb ((K : Int)).toNat
          rw [List.length_take] at this
          omega)
        rw [RP1.out, RP2.out] at hrd
        have HC6 := Lib.hid hc6
        have HRD := Lib.hid hrd
        have HKP6 := Lib.hid (HKP5.out.stepA ho6 hO6)
        clear hans hst6 hc6 hO6 ho6 hrd HWO HC5 HKP5
        go_wp2_with fail
        refine HRD.out.mono ?_
        rintro e w7 ⟨x, er, rfl, hx7, her7, hon7, hd7⟩
        obtain rfl := her7.nil rfl
        have hc7 := HC6.out.same hon7 hd7
        obtain ⟨k0, k1, k2⟩ := HPC.out w7 hc7.bel
        obtain ⟨Ax, cx, rfl⟩ := hx7.rd.slice
        obtain ⟨nx, enx⟩ : ∃ nx, nx = (padF p.txt sz).length := ⟨_, rfl⟩
        have hrx : Rd .u8 w7 (.slice Ax nx cx) (padF p.txt sz) := by rw [enx]; exact hx7.rd
        rw [← enx]
        have HC7 := Lib.hid hc7
        have HX7 := Lib.hid hrx
        have HBY7 := Lib.hid (HBY.out w7 hc7.bel)
        have HKP7 := Lib.hid (HKP6.out.stepA hon7 (fun b hb => .inl hb))
        clear hx7 her7 hon7 hd7 hc7 enx hrx HRD HC6 HKP6
        go_wp2_with fail
        refine HBY7.out.mono ?_
        rintro e w8 ⟨B8, rfl, hB8, hrow8, hb8⟩
        have hrd8 := hrow8.rd (padF p.txt sz) sz (by rw [padF_len]; exact Nat.le_refl _) (by rw [padF_len]; exact Nat.le_refl _) (fun i hi => rfl)
        have hsm := sameB_ok _ _ _ _ w8 (HX7.out.below hb8) hrd8 (by rw [padF_len]; unfold maxLen; omega) (by rw [padF_len]; unfold maxLen; omega)
        rw [padF_len, show decide (padF p.txt sz = padF p.txt sz) = true from decide_eq_true rfl] at hsm
        have HSM := Lib.hid hsm
        have HC8 := Lib.hid (HC7.out.below hb8)
        have HKP8 := Lib.hid (HKP7.out.below hb8)
        clear hB8 hrow8 hb8 hrd8 hsm k0 k1 k2 HC7 HBY7 HX7 HKP7
        go_wp2_with fail
        refine HSM.out.mono ?_
        rintro e w9 ⟨m9, rfl, hw9⟩
        have HC9 : Hid (Cur w w9 d (readS s5 K) O6) := Lib.hid (by rw [hw9]; exact HC8.out.below (below_drewN (Below.refl _ _) m9))
        have HKP9 : Hid (Kept w1.heap.size wA.heap.size wA w9 O6 (fun _ => False)) := Lib.hid (by rw [hw9]; exact HKP8.out.below (below_drewN (Below.refl _ _) m9))
        clear hw9 HSM HC8 HKP8
        go_wp2_with fail
        go_roundw
        case rel => exact ⟨i + 1, by omega, by go_num, _, O6, HC9.out, HSN.out.read K, HKP9.out⟩
        case measure => simp [intOf] <;> omega
      · obtain rfl : L = i := by omega
        obtain ⟨wq, rfl⟩ : ∃ x, x = wr := ⟨_, rfl⟩
        have hwf : Wrote s0 s ps := by have := HW.out; rw [List.take_of_length_le (by rw [← EL.out]; exact Nat.le_refl _)] at this; exact this
        have hcr := crash_ok O wq d s _ ks HC.out.rep (HC.out.rd HK.out) HKB.out HKL.out (fun k => by
          rw [hwf.ca, List.length_map]
          have := mine_len ps s0.nb k
          have := EL.out
          omega)
        have hck : ∀ k, k < nb → (keepP ks k (mine ps nb k).length = 0 → readE (crashS s ks) k = readE s0 k ∧ readX (crashS s ks) k = readX s0 k) ∧ ∀ m, keepP ks k (mine ps nb k).length = m + 1 → readE (crashS s ks) k = 0 ∧ readX (crashS s ks) k = padF ((mine ps nb k).getD m p0).txt sz := fun k hk => by
          have h := crash_keep hwf F4.out F3.out ks (k := k) (by rw [F1.out]; exact hk)
          rw [F1.out, F2.out] at h; exact h
        obtain ⟨s3, es3⟩ : ∃ s3, s3 = crashS s ks := ⟨_, rfl⟩
        rw [← es3] at hcr hck
        have HCK := Lib.hid hck
        have HCR := Lib.hid hcr
        have HN3 := Lib.hid (show s3.nb = nb by rw [es3]; show s.nb = nb; rw [hwf.nb, F1.out])
        have HCA3 : Hid (∀ k, s3.ca k = []) := Lib.hid (fun k => by rw [es3]; rfl)
        have HO3 : Hid (s3.off = false) := Lib.hid (by rw [es3]; rfl)
        clear hwf hcr hck es3
        go_wp2_with fail
        refine HCR.out.mono ?_
        rintro e w4 ⟨rfl, hst4⟩
        obtain ⟨O4, hc4, hO4, ho4⟩ := HC.out.step hst4
        have hse := seen_ok O4 w4 d s3 hc4.rep (fun k => by rw [HCA3.out k]; simp)
        rw [HN3.out] at hse
        have HC4 := Lib.hid hc4
        have HSE := Lib.hid hse
        have HKP4 := Lib.hid (HKP.out.stepA ho4 hO4)
        clear hst4 hc4 hO4 ho4 hse HCR HC HKP
        go_wp2_with fail
        refine HSE.out.mono ?_
        rintro e w5 ⟨bvz, evz, cz, rfl, hsvz, honz, hdz⟩
        rw [HN3.out] at hsvz
        obtain ⟨Vsz, hVz, _⟩ := hsvz.b
        obtain ⟨gBz, qz, rfl, _, _⟩ := own_at hVz (by omega)
        obtain ⟨gEz, rz, rfl, _, _⟩ := own_at hsvz.e (by omega)
        obtain ⟨wZ, ewZ⟩ : ∃ wZ, wZ = w5.alloc (.cells #[.slice (some ⟨gBz, 0, none⟩) nb qz, .slice (some ⟨gEz, 0, none⟩) nb rz] 35) := ⟨_, rfl⟩
        have hbZ : Below w5.heap.size w5 wZ := by rw [ewZ]; exact (Below.refl _ _).alloc (Nat.le_refl _) _
        have hblZ : Blk wZ w5.heap.size 35 #[.slice (some ⟨gBz, 0, none⟩) nb qz, .slice (some ⟨gEz, 0, none⟩) nb rz] := by rw [ewZ]; exact Blk.new _ _ _
        have hszZ : wZ.heap.size = w5.heap.size + 1 := by rw [ewZ]; simp
        have hcZ := (HC4.out.same honz hdz).below hbZ
        have ka := (HKP4.out.stepA honz (fun b hb => .inl hb)).below hbZ
        have va := HSVA.out.kept ka rfl
        have vz := hsvz.below hbZ
        have ba := ka.blk HBLA.out (by have := HONA.out; omega) (by have := HSZA.out; omega)
        have hwf4 := HC4.out.rep.wf
        have hcell : ∀ k, k < nb → ∃ va vz, ∀ W, Below wZ.heap.size wZ W → W.cell? ⟨w2.heap.size, 0, none⟩ = some (.slice (some ⟨gBa, 0, none⟩) nb qa) ∧ W.cell? ⟨w2.heap.size, 1, none⟩ = some (.slice (some ⟨gEa, 0, none⟩) nb ra) ∧ W.cell? ⟨w5.heap.size, 0, none⟩ = some (.slice (some ⟨gBz, 0, none⟩) nb qz) ∧ W.cell? ⟨w5.heap.size, 1, none⟩ = some (.slice (some ⟨gEz, 0, none⟩) nb rz) ∧
            W.cell? ⟨gBa, k, none⟩ = some va ∧ W.cell? ⟨gEa, k, none⟩ = some (.int .i64 (readE s0 k)) ∧ Rd .u8 W va (readX s0 k) ∧ W.cell? ⟨gBz, k, none⟩ = some vz ∧ W.cell? ⟨gEz, k, none⟩ = some (.int .i64 (readE s3 k)) ∧ Rd .u8 W vz (readX s3 k) := fun k hk => by
          obtain ⟨x, hx⟩ := va.cells hk
          obtain ⟨z, hz⟩ := vz.cells hk
          refine ⟨x, z, fun W hW => ?_⟩
          obtain ⟨a1, a2, a3⟩ := hx W hW
          obtain ⟨z1, z2, z3⟩ := hz W hW
          exact ⟨(ba.below hW ba.lt).cell 0, (ba.below hW ba.lt).cell 1, (hblZ.below hW (by omega)).cell 0, (hblZ.below hW (by omega)).cell 1, a1, a2, a3, z1, z2, z3⟩
        have EWZ := Lib.hid ewZ
        have HCZ := Lib.hid hcZ
        have HCELL := Lib.hid hcell
        have HXL : Hid (∀ j, j < nb → (readX s3 j).length ≤ 1024) := Lib.hid (fun j hj => readX_len hwf4 HCA3.out j (by rw [HN3.out]; exact hj))
        have HB0 : Hid (Below wZ.heap.size wZ wZ) := Lib.hid (Below.refl _ _)
        clear hVz hsvz honz hdz hbZ hblZ hszZ hcZ ka va vz ba hwf4 hcell ewZ HSE HC4 HKP4
        go_wp2_with fail
        rw [← EWZ.out]
        go_loopw [19, 20, 21, 22] (fun b _ _ _ wr => ∃ k : Nat, k ≤ nb ∧ b = .int .i64 k ∧ Below wZ.heap.size wZ wr) (fun b _ _ _ _ => nb - (intOf b).toNat)
        case atStart => exact ⟨0, Nat.zero_le _, rfl, HB0.out⟩
        case round =>
          obtain ⟨k, hk, rfl, hbel⟩ := hrel
          obtain ⟨w6, rfl⟩ : ∃ x, x = wr := ⟨_, rfl⟩
          have HB6 := Lib.hid hbel
          clear hbel HB0 EWZ
          by_cases hkn : k < nb
          · have HB0 : Hid (Below w6.heap.size w6 w6) := Lib.hid (Below.refl _ _)
            go_wp2_with fail
            go_loopw [20, 21] (fun v b wr => ∃ j : Nat, j ≤ L ∧ b = .int .i64 j ∧ wr.ownsRow w6.heap.size 38 3 v (mine (ps.take j) nb k).length (cellsP (mine (ps.take j) nb k)) ∧ Below w6.heap.size w6 wr) (fun _ b _ => L - (intOf b).toNat)
            case atStart => exact ⟨0, Nat.zero_le _, rfl, World.ownsRow_nil _ _ _ _, HB0.out⟩
            case round =>
              obtain ⟨j, hj, rfl, hown, hbj⟩ := hrel
              have HOWN := Lib.hid hown
              have HBJ := Lib.hid hbj
              have hbz : Below wZ.heap.size wZ wr := HB6.out.trans (hbj.mono HB6.out.size)
              have HBZ := Lib.hid hbz
              have HBW := Lib.hid (HCZ.out.bel.trans (hbz.mono HCZ.out.bel.size))
              clear hown hbj hbz HB0
              by_cases hlt2 : j < L
              · obtain ⟨bb, off, rfl, hbb, hp0, hp1⟩ := HP.out.at HBW.out (i := j) (by rw [← EL.out]; exact hlt2)
                obtain ⟨p, ep⟩ : ∃ p, p = ps.getD j p0 := ⟨_, rfl⟩
                rw [← ep] at hp0 hp1
                obtain ⟨Au, cu, etv⟩ := hp0.rd.slice
                obtain ⟨nu, enu⟩ : ∃ nu, nu = p.txt.length := ⟨_, rfl⟩
                rw [← enu] at etv
                have hpc : ∀ W, Below w.heap.size w W → W.cell? ⟨bb, off + j * 3, none⟩ = some (.int .i64 p.blk) ∧ W.cell? ⟨bb, off + j * 3 + 1, none⟩ = some (.slice Au nu cu) ∧ W.cell? ⟨bb, off + j * 3 + 2, none⟩ = some (.bool p.past) := fun W hW => let h := hp0.below hbb hW; ⟨h.c0, by rw [← etv]; exact h.c1, h.c2⟩
                obtain ⟨k0, k1, k2⟩ := hpc wr HBW.out
                have hbk := block_ok wr p nb hnb1 hnb2
                unfold PutV.agg at hbk
                rw [etv] at hbk
                have hms := mine_snoc (ps.take j) p nb k
                rw [ep, ← take_snoc ps j (by rw [← EL.out]; exact hlt2), ← ep] at hms
                obtain ⟨K, eK⟩ : ∃ K, K = p.at nb := ⟨_, rfl⟩
                rw [← eK] at hbk hms
                have HPC := Lib.hid hpc
                have HBK := Lib.hid hbk
                have HMS := Lib.hid hms
                have PTV := Lib.hid etv
                clear hp0 hp1 ep etv enu hpc hbk hms eK
                go_wp2_with fail
                refine HBK.out.mono ?_
                rintro e w7 ⟨rfl, hb7⟩
                obtain ⟨k0, k1, k2⟩ := HPC.out w7 (HBW.out.trans (hb7.mono HBW.out.size))
                have HOWN7 := Lib.hid (own3_below HOWN.out hb7)
                have HBJ7 := Lib.hid (HBJ.out.trans (hb7.mono HBJ.out.size))
                have HS7 : Hid (w6.heap.size ≤ w7.heap.size) := Lib.hid (Nat.le_trans HBJ.out.size hb7.size)
                clear hb7 HBK HPC HBW HBZ
                by_cases hKk : K = k
                · have HM2 := Lib.hid (show mine (ps.take (j + 1)) nb k = mine (ps.take j) nb k ++ [p] by rw [HMS.out, if_pos hKk])
                  subst hKk
                  have hml : (mine (ps.take j) nb K).length + 1 ≤ L := by
                    have h1 := mine_len (ps.take (j + 1)) nb K
                    rw [HM2.out, List.length_append, List.length_take] at h1
                    have := EL.out
                    simp at h1
                    omega
                  obtain ⟨n, en⟩ : ∃ n, n = (mine (ps.take j) nb K).length := ⟨_, rfl⟩
                  have HEN := Lib.hid en
                  rw [← en] at HOWN7 hml
                  clear en HMS HOWN HBJ
                  go_wp2_with (with_reducible refine app3 rfl (.tmp 104) (.tmp 109) 23 rfl w6.heap.size 38 (.agg #[.int .i64 0, .slice none 0 0, .bool false]) 40 Try.underlying23 info_put rfl _ n _ rfl HOWN7.out (.int .i64 p.blk) (.slice Au nu cu) (.bool p.past) 1 rfl rfl rfl rfl ?c1 ?c2 ?c3 ?_)
                  case c1 => unfold maxLen; omega
                  case c2 => omega
                  case c3 => exact HS7.out
                  intro v8 w8 ho8 hg8
                  have hrel8 : w8.ownsRow w6.heap.size 38 3 v8 (mine (ps.take (j + 1)) nb K).length (cellsP (mine (ps.take (j + 1)) nb K)) := by
                    rw [HM2.out, cellsP_snoc, List.length_append, ← HEN.out, PTV.out]; exact ho8
                  have HREL8 := Lib.hid hrel8
                  have HB8 := Lib.hid (HBJ7.out.trans (below_grown3 HOWN7.out hg8 (Nat.le_refl _) HS7.out))
                  clear hrel8 ho8 hg8
                  go_wp2_with fail
                  go_roundw
                  case rel => exact ⟨j + 1, by omega, by go_num, HREL8.out, HB8.out⟩
                  case measure => simp [intOf] <;> omega
                · have HM2 := Lib.hid (show mine (ps.take (j + 1)) nb k = mine (ps.take j) nb k by rw [HMS.out, if_neg hKk])
                  have t0 : ((K : Int) == (k : Int)) = false := by simp; omega
                  clear hKk HMS HOWN HBJ k0 k1 k2
                  go_wp2_with fail
                  go_roundw
                  case rel => exact ⟨j + 1, by omega, by go_num, by rw [HM2.out]; exact HOWN7.out, HBJ7.out⟩
                  case measure => simp [intOf] <;> omega
              · obtain rfl : L = j := by omega
                have hown := HOWN.out
                rw [List.take_of_length_le (by rw [← EL.out]; exact Nat.le_refl _)] at hown
                obtain ⟨Av, cv, rfl⟩ := own3_len hown
                obtain ⟨n, en⟩ : ∃ n, n = (mine ps nb k).length := ⟨_, rfl⟩
                rw [← en] at hown ⊢
                have hnL : n ≤ L := by rw [en, EL.out]; exact mine_len _ _ _
                have hlf := left_ok wr _ ks k n (HK.out.below HBW.out) HKB.out HKL.out (by omega) (by omega)
                obtain ⟨hck0, hck1⟩ := HCK.out k hkn
                rw [← en] at hck0 hck1
                obtain ⟨K, eK⟩ : ∃ K, K = keepP ks k n := ⟨_, rfl⟩
                have hKn : K ≤ n := by rw [eK]; exact keepP_le ks k n
                rw [← eK] at hlf hck0 hck1
                have HOWN2 := Lib.hid hown
                have HLF := Lib.hid hlf
                have HCK0 := Lib.hid hck0
                have HCK1 := Lib.hid hck1
                have EN := Lib.hid en
                clear hown hlf hck0 hck1 en eK HOWN
                go_wp2_with fail
                refine HLF.out.mono ?_
                rintro e w7 ⟨rfl, m7, hw7⟩
                have hb7r : Below wr.heap.size wr w7 := by rw [hw7]; exact below_drewN (Below.refl _ _) m7
                have HB7 := Lib.hid (HBZ.out.trans (hb7r.mono HBZ.out.size))
                have HOWN7 := Lib.hid (own3_below HOWN2.out hb7r)
                clear hw7 hb7r HLF HOWN2 HBJ HBW
                obtain ⟨va, vz, hcl⟩ := HCELL.out k hkn
                obtain ⟨a1, a2, z1, z2, a3, a4, a5, z3, z4, z5⟩ := hcl w7 HB7.out
                obtain ⟨Aa, ca2, rfl⟩ := a5.slice
                obtain ⟨Az, cz2, rfl⟩ := z5.slice
                have hlz := HXL.out k hkn
                by_cases hK0 : K = 0
                · obtain ⟨h1, h2⟩ := HCK0.out hK0
                  rw [h1] at z4
                  rw [h2] at z5 z3 hlz
                  obtain ⟨na, ena⟩ : ∃ na, na = (readX s0 k).length := ⟨_, rfl⟩
                  rw [h2] at hcl
                  rw [← ena] at a3 z3 a5 z5
                  obtain ⟨e1, ee1⟩ : ∃ e1, e1 = readE s0 k := ⟨_, rfl⟩
                  rw [← ee1] at a4 z4
                  have hsm : ∀ n, Calls Try.prog 17 #[.slice Az na cz2, .slice Aa na ca2] (w7.drewN n) fun e w'' => e = .returned (.bool true) ∧ ∃ m, w'' = w7.drewN m := fun n => by
                    have h := sameB_ok _ _ _ _ (w7.drewN n) (z5.below (below_drewN (Below.refl _ _) n)) (a5.below (below_drewN (Below.refl _ _) n)) (by unfold maxLen; omega) (by unfold maxLen; omega)
                    rw [show decide (readX s0 k = readX s0 k) = true from decide_eq_true rfl] at h
                    refine h.mono ?_
                    rintro e w'' ⟨m, h1, h2⟩
                    exact ⟨h1, n + m, by rw [h2, drewN_two]⟩
                  have HSM := Lib.hid hsm
                  subst hK0
                  clear hsm a5 z5 hcl ena ee1 h1 h2 hlz HCK0 HCK1
                  go_wp2_with fail
                  go_quiet ((go_at_call 17; with_reducible exact HSM.out _))
                  go_wp2_with fail
                  go_roundw
                  case rel => exact ⟨k + 1, by omega, by go_num, below_drewN HB7.out _⟩
                  case measure => simp [intOf] <;> omega
                · obtain ⟨m, em⟩ : ∃ m, K = m + 1 := ⟨K - 1, by omega⟩
                  obtain ⟨h1, h2⟩ := HCK1.out m em
                  have hm : m < (mine ps nb k).length := by rw [← EN.out]; omega
                  obtain ⟨p, ep⟩ : ∃ p, p = (mine ps nb k).getD m p0 := ⟨_, rfl⟩
                  obtain ⟨ii, hii, eii⟩ := mine_mem hm
                  rw [← ep] at eii h2
                  have hpR : Rd .u8 w p.tv p.txt ∧ p.txt.length ≤ 9223372036854775807 := by
                    obtain ⟨bb, off, _, _, hp0, _⟩ := HP.out.at (Below.refl _ _) (i := ii) hii
                    rw [eii] at hp0
                    exact ⟨hp0.rd, hp0.ln⟩
                  obtain ⟨Au, cu, etv⟩ := hpR.1.slice
                  obtain ⟨nu, enu⟩ : ∃ nu, nu = p.txt.length := ⟨_, rfl⟩
                  rw [← enu] at etv
                  obtain ⟨g, cg, eg, hgc⟩ := own3_cells HOWN7.out (by omega)
                  simp only [Value.slice.injEq] at eg
                  obtain ⟨rfl, _, rfl⟩ := eg
                  obtain ⟨g0, g1, g2⟩ := cellsP_at (mine ps nb k) m hm
                  rw [← ep] at g0 g1 g2
                  have c0 := hgc _ _ g0
                  have c1 := hgc _ _ g1
                  have c2 := hgc _ _ g2
                  rw [etv] at c1
                  obtain ⟨nz, enz⟩ : ∃ nz, nz = (readX s3 k).length := ⟨_, rfl⟩
                  rw [← enz] at z3 z5
                  rw [h1] at z4
                  have hzr : ∀ W, Below w7.heap.size w7 W → Rd .u8 W (.slice Az nz cz2) (padF p.txt sz) := fun W hW => by rw [← h2]; exact z5.below hW
                  have hbyt : ∀ W, Below w7.heap.size w7 W → Calls Try.prog 18 #[.agg #[.int .i64 p.blk, .slice Au nu cu, .bool p.past], .int .i64 sz] W (BytesQ W sz p.txt) := fun W hW => by
                    have h := bytes_ok W p sz hsz1 (hpR.1.below (HCZ.out.bel.trans ((HB7.out.trans (hW.mono HB7.out.size)).mono HCZ.out.bel.size))) hpR.2
                    unfold PutV.agg at h
                    rw [etv] at h; exact h
                  have hgl : g < w7.heap.size := World.block_lt_of_cell? w7 ⟨g, m * 3, none⟩ c0
                  have hss : ∀ W, Below w7.heap.size w7 W → (fun w' => w'.cell? ⟨w5.heap.size, 0, none⟩ = some (.slice (some ⟨gBz, 0, none⟩) nb qz) ∧ w'.cell? ⟨w5.heap.size, 1, none⟩ = some (.slice (some ⟨gEz, 0, none⟩) nb rz) ∧ w'.cell? ⟨gEz, k, none⟩ = some (.int .i64 0) ∧ w'.cell? ⟨gBz, k, none⟩ = some (.slice Az nz cz2) ∧ w'.cell? ⟨g, m * 3, none⟩ = some (.int .i64 p.blk) ∧ w'.cell? ⟨g, m * 3 + 1, none⟩ = some (.slice Au nu cu) ∧ w'.cell? ⟨g, m * 3 + 2, none⟩ = some (.bool p.past)) W := fun W hW => by
                    obtain ⟨_, _, y1, y2, _, _, _, y3, y4, _⟩ := hcl W (HB7.out.trans (hW.mono HB7.out.size))
                    rw [h1] at y4
                    rw [← enz] at y3
                    exact ⟨y1, y2, y4, y3, (cell_of_heap (hW.block g hgl) _).trans c0, (cell_of_heap (hW.block g hgl) _).trans c1, (cell_of_heap (hW.block g hgl) _).trans c2⟩
                  have m1 : IntKind.i64.wrap ((K : Int) - 1) = (m : Int) := by rw [em, IntWalk.i64_in _ (by omega)]; omega
                  have m2 : (m : Int) < (n : Int) := by omega
                  have b3 : ((K : Int) == 0) = false := by simp; omega
                  have HZR := Lib.hid hzr
                  have HBYT := Lib.hid hbyt
                  have HSS := Lib.hid hss
                  have HB : Hid (Below w7.heap.size w7 w7) := Lib.hid (Below.refl _ _)
                  clear hcl a1 a2 a3 a4 a5 z1 z2 z3 z4 z5 hlz h1 h2 em hm ep eii hii hpR etv enu hgc g0 g1 g2 c0 c1 c2 enz hzr hbyt hgl hss HCK0 HCK1 hK0 hKn
                  go_wp2_with fail
                  go_region_held3 (fun w' => w'.cell? ⟨w5.heap.size, 0, none⟩ = some (.slice (some ⟨gBz, 0, none⟩) nb qz) ∧ w'.cell? ⟨w5.heap.size, 1, none⟩ = some (.slice (some ⟨gEz, 0, none⟩) nb rz) ∧ w'.cell? ⟨gEz, k, none⟩ = some (.int .i64 0) ∧ w'.cell? ⟨gBz, k, none⟩ = some (.slice Az nz cz2) ∧ w'.cell? ⟨g, m * 3, none⟩ = some (.int .i64 p.blk) ∧ w'.cell? ⟨g, m * 3 + 1, none⟩ = some (.slice Au nu cu) ∧ w'.cell? ⟨g, m * 3 + 2, none⟩ = some (.bool p.past)) (exact HSS.out _ (by first | exact HB.out | exact HB.out.drew))
                    (first
                      | (go_at_call 18; refine (HBYT.out _ ?hh).mono ?_; (case hh => first | exact HB.out | exact HB.out.drew); rintro e wq2 ⟨B9, rfl, hB9, hrow9, hbq⟩; (first | have HB := Lib.hid (HB.out.trans (hbq.mono HB.out.size)) | have HB := Lib.hid (HB.out.trans ((below_of_drew hbq).mono HB.out.size))); clear hbq hB9; have hsm := sameB_ok _ _ _ _ wq2 (HZR.out wq2 HB.out) (hrow9.rd (padF p.txt sz) sz (by rw [padF_len]; exact Nat.le_refl _) (by rw [padF_len]; exact Nat.le_refl _) (fun i hi => rfl)) (by rw [padF_len]; unfold maxLen; omega) (by rw [padF_len]; unfold maxLen; omega); rw [padF_len, show decide (padF p.txt sz = padF p.txt sz) = true from decide_eq_true rfl] at hsm; have HSM := Lib.hid hsm; clear hrow9 hsm)
                      | (go_at_call 17; refine HSM.out.mono ?_; rintro e w9 ⟨m9, rfl, hw9⟩; have HB := Lib.hid (show Below w7.heap.size w7 w9 by rw [hw9]; exact below_drewN HB.out m9); clear hw9))
                  all_goals
                    go_wp2_with fail
                    go_roundw
                    case rel => exact ⟨k + 1, by omega, by go_num, HB7.out.trans (HB.out.mono HB7.out.size)⟩
                    case measure => simp [intOf] <;> omega
          · have hcw := HCZ.out.below HB6.out
            have hon : Calls Try.prog 24 #[.pointer (some ⟨d, 0, none⟩)] w6 fun e w' => e = .returned (.bool true) ∧ w6 = w' := by
              obtain ⟨m, c, hb⟩ := blkD hcw.rep
              have h := on_ok w6 d m c _ hb
              rw [show (withC0 s3 cz).off = false from HO3.out] at h
              exact h
            have hF : Q (.returned (.bool true)) w6 := by rw [EQ.out]; exact ⟨rfl, hcw.bel⟩
            have HON := Lib.hid hon
            have HF := Lib.hid hF
            clear hcw hon hF
            go_wp2_with fail
            refine HON.out.mono ?_
            rintro e w' ⟨rfl, rfl⟩
            go_wp2_with fail
            first | exact HF.out | (go_ret; exact HF.out)
  · have hus := usable_ok w nb sz
    rw [usableB_no hu] at hus
    have HUS := Lib.hid hus
    have HF := Lib.hid (show Q (.returned (.bool true)) w by rw [eQ]; exact ⟨rfl, Below.refl _ _⟩)
    clear hus hu ho hp hk eQ
    go_enter Try.func4, Try.ntmps4
    go_wp2_with (go_at_call 10; with_reducible refine HUS.out.mono ?_; rintro e w' ⟨rfl, rfl⟩)
    first | exact HF.out | (go_ret; exact HF.out)
end Go.Proofs.Ytigfcoibbmndpaa
