/- What Through has written stands: DiskThrough, the walk. -/
import Derived.Test.YtigfcoibbmndpaaLwK
import Derived.Outline
import Derived.Deep.RegionWith
import Derived.Deep.Cut
namespace Go.Proofs.Ytigfcoibbmndpaa
open Go.RowKit
open Go.ChangeMaps
set_option linter.unusedVariables false
set_option linter.unusedSimpArgs false
theorem AnsE.nil {lo : Nat} {w : World} {v : Value} {e0 j : Int} (h : AnsE lo w v e0 j) (h0 : e0 = 0) : v = .nilIface := by
  rcases h with ⟨h, _⟩ | ⟨_, _, _, h, _⟩
  · exact h
  · exact absurd h0 h
theorem AnsE.some {lo : Nat} {w : World} {v : Value} {e0 j : Int} (h : AnsE lo w v e0 j) (h0 : e0 ≠ 0) : ∃ b, v = .iface 104 (.pointer (some ⟨b, 0, none⟩)) := by
  rcases h with ⟨_, h⟩ | ⟨b, h, _⟩
  · exact absurd h h0
  · exact ⟨b, h⟩
theorem dur_held {s : DSt} {k : Nat} {xs : List Int} (h : Held s k xs) (hk : k < s.nb) : durE s k = 0 ∧ durX s k = xs := by
  have hin : s.inr k := ⟨by omega, by omega⟩
  have e : durE s k = 0 := by
    unfold durE
    rw [if_neg (fun h => h hin), show ((k : Int)).toNat = k by omega, h.sp]; rfl
  refine ⟨e, ?_⟩
  unfold durX
  rw [e, show ((k : Int)).toNat = k by omega, h.du]; rfl
theorem read_held {s : DSt} {k : Nat} {xs : List Int} (h : Held s k xs) (hk : k < s.nb) (ho : s.off = false) : readE s k = 0 ∧ readX s k = xs := by
  have hin : s.inr k := ⟨by omega, by omega⟩
  have e : readE s k = 0 := by
    unfold readE
    rw [if_neg (fun h => h hin), if_neg (by rw [ho]; simp), show ((k : Int)).toNat = k by omega, h.sp, h.ca]; rfl
  refine ⟨e, ?_⟩
  unfold readX
  rw [e, show ((k : Int)).toNat = k by omega, h.du, h.ca]; rfl
theorem Held.read {s : DSt} {k : Nat} {xs : List Int} (h : Held s k xs) (j : Int) : Held (readS s j) k xs := by
  unfold readS
  by_cases h0 : readE s j = 0
  · rw [if_pos h0]; exact h.same rfl rfl rfl
  · rw [if_neg h0]; exact h
theorem wait_held {s : DSt} {k : Nat} {xs : List Int} (h : Held s k xs) : waitN s k = 0 := by
  unfold waitN
  rw [show ((k : Int)).toNat = k by omega, h.ca]; simp
set_option maxHeartbeats 1000000 in
set_option maxRecDepth 100000 in
theorem touches_ok (w : World) (o : OpV) (k : Nat) (hr : Rd .u8 w o.dv o.data) :
    Calls Try.prog 34 #[o.agg, .int .i64 k] w fun e w' => e = .returned (.bool (touchB o k)) ∧ Below w.heap.size w w' := by
  obtain ⟨A, cp, edv⟩ := hr.slice
  obtain ⟨kind, blk, cnt, dv, data⟩ := o
  dsimp only at edv
  subst edv
  clear hr
  simp only [OpV.agg]
  obtain ⟨w1, e1⟩ : ∃ w1, w1 = w.alloc (.cells #[.int .i64 kind, .int .i64 blk, .int .i64 cnt, .slice A data.length cp] 61) := ⟨_, rfl⟩
  have HB : Hid (Below w.heap.size w w1) := Lib.hid (by rw [e1]; exact (Below.refl _ _).alloc (Nat.le_refl _) _)
  by_cases h2 : kind = 2
  · have HT := Lib.hid (show touchB ⟨kind, blk, cnt, .slice A data.length cp, data⟩ k = decide (blk = k) by unfold touchB; rw [if_pos (.inl h2)])
    subst h2
    subst e1
    go_enter Try.func34, Try.ntmps34
    go_wp2_with fail
    go_ret
    exact ⟨by rw [HT.out]; rfl, HB.out⟩
  by_cases h3 : kind = 3
  · have HT := Lib.hid (show touchB ⟨kind, blk, cnt, .slice A data.length cp, data⟩ k = decide (blk = k) by unfold touchB; rw [if_pos (.inr (.inl h3))])
    subst h3
    subst e1
    clear h2
    go_enter Try.func34, Try.ntmps34
    go_wp2_with fail
    go_ret
    exact ⟨by rw [HT.out]; rfl, HB.out⟩
  by_cases h10 : kind = 10
  · have HT := Lib.hid (show touchB ⟨kind, blk, cnt, .slice A data.length cp, data⟩ k = decide (blk = k) by unfold touchB; rw [if_pos (.inr (.inr h10))])
    subst h10
    subst e1
    clear h2 h3
    go_enter Try.func34, Try.ntmps34
    go_wp2_with fail
    go_ret
    exact ⟨by rw [HT.out]; rfl, HB.out⟩
  by_cases h4 : kind = 4
  · have HT := Lib.hid (show touchB ⟨kind, blk, cnt, .slice A data.length cp, data⟩ k = decide (blk ≤ k) by unfold touchB; rw [if_neg (by dsimp only; omega), if_pos h4])
    subst h4
    subst e1
    clear h2 h3 h10
    go_enter Try.func34, Try.ntmps34
    go_wp2_with fail
    go_ret
    exact ⟨by rw [HT.out]; rfl, HB.out⟩
  · have HT := Lib.hid (show touchB ⟨kind, blk, cnt, .slice A data.length cp, data⟩ k = false by unfold touchB; rw [if_neg (by dsimp only; omega), if_neg h4])
    subst e1
    have n2 : (kind == 2) = false := by simp; omega
    have n3 : (kind == 3) = false := by simp; omega
    have n4 : (kind == 4) = false := by simp; omega
    have n10 : (kind == 10) = false := by simp; omega
    clear h2 h3 h10 h4
    go_enter Try.func34, Try.ntmps34
    go_wp2_with fail
    go_ret
    exact ⟨by rw [HT.out]; rfl, HB.out⟩
theorem OpsR.below {w w1 : World} {v : Value} {os : List OpV} (h : OpsR w v os) (hb : Below w.heap.size w w1) : OpsR w1 v os := by
  refine ⟨h.1, ?_⟩
  rcases h.2 with h | ⟨b, off, c, e, g1, g2, g3, g4⟩
  · exact .inl h
  · exact .inr ⟨b, off, c, e, g1, g2, Nat.lt_of_lt_of_le g3 hb.size, fun i hi => (g4 i hi).below g3 hb⟩
theorem PutsR.below {w w1 : World} {v : Value} {ps : List PutV} (h : PutsR w v ps) (hb : Below w.heap.size w w1) : PutsR w1 v ps := by
  refine ⟨h.1, ?_⟩
  rcases h.2 with h | ⟨b, off, c, e, g1, g2, g3, g4⟩
  · exact .inl h
  · exact .inr ⟨b, off, c, e, g1, g2, Nat.lt_of_lt_of_le g3 hb.size, fun i hi => (g4 i hi).below g3 hb⟩
theorem OpsR.at {w w1 : World} {A : Option Addr} {n c : Nat} {os : List OpV} (h : OpsR w (.slice A n c) os) (hb : Below w.heap.size w w1) {i : Nat} (hi : i < os.length) : ∃ b off, A = some ⟨b, off, none⟩ ∧ b < w.heap.size ∧ OpR1 w b (off + i * 4) (os.getD i d0) ∧ OpR1 w1 b (off + i * 4) (os.getD i d0) := by
  rcases h.2 with ⟨rfl, _⟩ | ⟨b, off, c, e, g1, g2, g3, g4⟩
  · simp at hi
  · simp only [Value.slice.injEq] at e
    exact ⟨b, off, e.1, g3, g4 i hi, (g4 i hi).below g3 hb⟩
set_option maxHeartbeats 1000000 in
set_option maxRecDepth 100000 in
theorem through_law (w : World) (nb sz : Int) (ov pv lv kv : Value) (pu : PutV) (os ls : List OpV) (ps : List PutV) (ks : List Int) (ho : OpsR w ov os) (hp : PutsR w pv ps) (hu1 : Rd .u8 w pu.tv pu.txt) (hu2 : pu.txt.length ≤ 9223372036854775807) (hl : OpsR w lv ls) (hk : Rd .u8 w kv ks) (hkb : BytesL ks) (hkl : ks.length ≤ 9223372036854775807) :
    Calls Try.prog 7 #[.int .i64 nb, .int .i64 sz, ov, pv, pu.agg, lv, kv] w fun e w' => e = .returned (.bool true) ∧ Below w.heap.size w w' := by
  obtain ⟨Q, eQ⟩ : ∃ Q : Ending → World → Prop, Q = fun e w' => e = .returned (.bool true) ∧ Below w.heap.size w w' := ⟨_, rfl⟩
  rw [← eQ]
  have EQ := Lib.hid eQ
  obtain ⟨Au, cu, eu⟩ := hu1.slice
  by_cases hu : Usable nb sz
  · have hub := usableB_yes hu
    obtain ⟨hn1, hn2, hn3⟩ := hu
    obtain ⟨nb, rfl⟩ : ∃ n : Nat, nb = n := ⟨nb.toNat, by omega⟩
    obtain ⟨sz, rfl⟩ : ∃ n : Nat, sz = n := ⟨sz.toNat, by omega⟩
    have hsz : Size sz := by unfold Size; omega
    obtain ⟨wa, ewa⟩ : ∃ wa, wa = w.alloc (.cells #[.int .i64 pu.blk, .slice Au pu.txt.length cu, .bool pu.past] 38) := ⟨_, rfl⟩
    have hba : Below w.heap.size w wa := by rw [ewa]; exact (Below.refl _ _).alloc (Nat.le_refl _) _
    have hpa : Blk wa w.heap.size 38 #[.int .i64 pu.blk, .slice Au pu.txt.length cu, .bool pu.past] := by rw [ewa]; exact Blk.new _ _ _
    have hsa : w.heap.size < wa.heap.size := by rw [ewa]; simp
    replace ho := ho.below hba
    replace hp := hp.below hba
    replace hl := hl.below hba
    replace hk := hk.below hba
    replace hu1 := hu1.below hba
    have hus := usable_ok wa nb sz
    rw [hub] at hus
    have hfr := freshD_ok wa nb sz ov os (by omega) (by omega) hsz ho
    obtain ⟨f1, f2, f3, f4⟩ := freshS_facts nb sz os
    have hnb1 : 1 ≤ nb := by omega
    have hnb2 : nb ≤ 8192 := by omega
    have hsz1 : sz ≤ 1024 := by omega
    obtain ⟨s0, es0⟩ : ∃ s0, s0 = freshS nb sz os := ⟨_, rfl⟩
    rw [← es0] at f1 f2 f3 f4
    unfold FreshQ at hfr
    rw [← es0] at hfr
    obtain ⟨Ak, ck, rfl⟩ := hk.slice
    obtain ⟨Al, cl, rfl⟩ := hl.slice
    obtain ⟨L, eL⟩ : ∃ L, L = ls.length := ⟨_, rfl⟩
    have hL : L * 48 ≤ 140737488351232 := by rw [eL]; exact hl.1
    have HUS := Lib.hid hus
    have HFR := Lib.hid hfr
    have HP := Lib.hid hp
    have HK := Lib.hid hk
    have HKB := Lib.hid hkb
    have HKL := Lib.hid hkl
    have HLS := Lib.hid hl
    have HU1 := Lib.hid hu1
    have HU2 := Lib.hid hu2
    have F1 := Lib.hid f1
    have F2 := Lib.hid f2
    have F3 := Lib.hid f3
    have F4 := Lib.hid f4
    have EL := Lib.hid eL
    rw [← eL]
    have EPU := Lib.hid (rfl : pu.agg = pu.agg)
    obtain ⟨K, eK⟩ : ∃ K, K = pu.at nb := ⟨_, rfl⟩
    have hKn : K < nb := by rw [eK]; exact pu.at_lt hnb1
    have EK := Lib.hid eK
    have hbk := fun w => block_ok w pu nb hnb1 hnb2
    rw [← eK] at hbk
    have hpc : ∀ W, Below wa.heap.size wa W → W.cell? ⟨w.heap.size, 0, none⟩ = some (.int .i64 pu.blk) ∧ W.cell? ⟨w.heap.size, 1, none⟩ = some (.slice Au pu.txt.length cu) ∧ W.cell? ⟨w.heap.size, 2, none⟩ = some (.bool pu.past) := fun W hW => ⟨(hpa.below hW hsa).cell 0, (hpa.below hW hsa).cell 1, (hpa.below hW hsa).cell 2⟩
    have HPC := Lib.hid hpc
    have HBA := Lib.hid hba
    have HSA := Lib.hid hsa
    have EWA := Lib.hid ewa
    have hby : ∀ W, Below wa.heap.size wa W → Calls Try.prog 18 #[pu.agg, .int .i64 sz] W (BytesQ W sz pu.txt) := fun W hW => bytes_ok W pu sz hsz1 (HU1.out.below hW) HU2.out
    have HBK := Lib.hid hbk
    have HBY := Lib.hid hby
    obtain ⟨uv, euv⟩ : ∃ uv, uv = pu.agg := ⟨_, rfl⟩
    rw [← euv] at HBK HBY ⊢
    rw [show pu.agg = .agg #[.int .i64 pu.blk, .slice Au pu.txt.length cu, .bool pu.past] by unfold PutV.agg; rw [eu]] at euv
    subst euv
    clear hpc hpa ewa hba hsa
    clear eQ hub hn1 hn2 hn3 hus hfr f1 f2 f3 f4 hp hk hkb hkl ho es0 hsz hl hu1 hu2 eL eK hbk hby eu EPU
    go_enter Try.func7, Try.ntmps7
    go_wp2_with fail
    rw [← EWA.out]
    refine HUS.out.mono ?_
    rintro e w' ⟨rfl, rfl⟩
    go_wp2_with fail
    refine HFR.out.mono ?_
    rintro e w1 ⟨d, O1, rfl, hd1, hO1, hb1⟩
    have hcur1 : Cur wa w1 d s0 O1 := ⟨hd1, hO1, hb1⟩
    have hpu := puts_ok O1 wa w1 d s0 pv ps hd1 hb1 hO1 HP.out F3.out (fun k => by rw [F4.out]; rfl)
    rw [F1.out, F2.out] at hpu
    have HC1 := Lib.hid hcur1
    have HPU := Lib.hid hpu
    clear hcur1 hpu hd1 hO1 hb1 HFR HUS
    go_wp2_with fail
    refine HPU.out.mono ?_
    rintro e w2 ⟨rfl, hst2⟩
    obtain ⟨O2, hcur2, _, _⟩ := HC1.out.step hst2
    obtain ⟨s1, es1⟩ : ∃ s1, s1 = putsS s0 ps := ⟨_, rfl⟩
    rw [← es1] at hcur2
    have hg1 := putsS_grows s0 ps
    have hlv1 := putsS_live F3.out ps
    rw [← es1] at hg1 hlv1
    have hpl : ps.length * 40 ≤ 140737488351232 := HP.out.1
    have hca1 : ∀ k, (s1.ca k).length * 40 ≤ 140737488351232 := fun k => by have := hg1.2.2 k; rw [F4.out] at this; simp at this; omega
    have HC2 := Lib.hid hcur2
    have HG1 := Lib.hid hg1
    have HL1 := Lib.hid hlv1
    have HCA1 := Lib.hid hca1
    have HBK2 := Lib.hid (HBK.out w2)
    obtain ⟨q0, q1, q2⟩ := HPC.out w2 HC2.out.bel
    clear hcur2 hst2 hg1 hlv1 hca1 HC1 HPU es1 HBK
    go_wp2_with fail
    refine HBK2.out.mono ?_
    rintro e w3 ⟨rfl, hb3⟩
    have hcur3 := HC2.out.below hb3
    have HBY3 := Lib.hid (HBY.out w3 hcur3.bel)
    clear q0 q1 q2
    obtain ⟨q0, q1, q2⟩ := HPC.out w3 hcur3.bel
    have HC3 := Lib.hid hcur3
    clear hcur3 hb3 HC2 HBK2
    go_wp2_with fail
    refine HBY3.out.mono ?_
    rintro e w4 ⟨B4, rfl, hB4, hrow4, hb4⟩
    have hcur4 := HC3.out.below hb4
    have hn4 : s1.nb = nb := by rw [HG1.out.1, F1.out]
    have hz4 : s1.sz = sz := by rw [HG1.out.2.1, F2.out]
    have hrn : RdN O2 w4 (.slice (some ⟨B4, 0, none⟩) sz sz) (padF pu.txt sz) := by
      refine ⟨?_, fun b off n c he _ hb => ?_⟩
      · have := hrow4.rd (padF pu.txt sz) sz (by rw [padF_len]; exact Nat.le_refl _) (by rw [padF_len]; exact Nat.le_refl _) (fun i hi => rfl)
        rw [padF_len] at this; exact this
      · simp only [Value.slice.injEq, Option.some.injEq, Addr.mk.injEq] at he
        have := HC3.out.rep.lt hb
        omega
    have hth := through_ok O2 w4 d s1 K _ (padF pu.txt sz) hcur4.rep hrn
    obtain ⟨hw1, hw2, hw3⟩ := write_live HL1.out (k := K) (by rw [hn4]; exact hKn) (xs := padF pu.txt sz) (by rw [padF_len, hz4])
    rw [hw3, hw1] at hth
    have hz5 : (thruS s1 K (padF pu.txt sz)).nb = nb := hn4
    have HTH := Lib.hid hth
    have HC4 := Lib.hid hcur4
    have HN4 := Lib.hid hn4
    clear q0 q1 q2
    clear hth hcur4 hn4 hz4 hrn hw1 hw2 hw3 hz5 hb4 hrow4 hB4 HC3 HBY3
    go_wp2_with fail
    refine HTH.out.mono ?_
    rintro e w5 ⟨er, rfl, hans, hst5⟩
    obtain rfl := hans.nil rfl
    obtain ⟨O5, hcur5, _, _⟩ := HC4.out.step hst5
    obtain ⟨s2, es2⟩ : ∃ s2, s2 = thruS s1 K (padF pu.txt sz) := ⟨_, rfl⟩
    rw [← es2] at hcur5
    have hhe : Held s2 K (padF pu.txt sz) := by rw [es2]; exact held_thru _ _ _
    have hn5 : s2.nb = nb := by rw [es2]; exact HN4.out
    have hca5 : ∀ k, (s2.ca k).length * 40 ≤ 140737488351232 := fun k => by
      rw [es2]
      show (dropC s1.ca K k).length * 40 ≤ _
      unfold dropC
      split
      · simp
      · exact HCA1.out k
    have HC5 := Lib.hid hcur5
    have HHE := Lib.hid hhe
    have HN5 := Lib.hid hn5
    have HCA5 := Lib.hid hca5
    clear hcur5 hhe hn5 hca5 es2 hst5 hans HC4 HTH HG1 HL1 HCA1
    go_wp2_with fail
    go_loopw [20, 21, 22] (fun b _ _ wr => ∃ i : Nat, i ≤ L ∧ b = .int .i64 i ∧ ∃ O', Cur wa wr d (skipS K s2 (ls.take i)) O') (fun b _ _ _ => L - (intOf b).toNat)
    case atStart => exact ⟨0, Nat.zero_le _, rfl, O5, HC5.out⟩
    case round =>
      obtain ⟨i, hi, rfl, O6, hcur6⟩ := hrel
      have HC6 := Lib.hid hcur6
      clear hcur6 HC5
      obtain ⟨sf1, sf2, sf3, sf4⟩ := skipS_facts K (padF pu.txt sz) (ls.take i) s2
      have hcap6 : ∀ k, ((skipS K s2 (ls.take i)).ca k).length ≤ 100000000000000 - 1 ∧ (((skipS K s2 (ls.take i)).ca k).length + 1) * 24 ≤ 200000000000000 := fun k => by
        have h1 := sf4 k
        have h2 := HCA5.out k
        rw [List.length_take] at h1
        have : ls.length = L := EL.out.symm
        omega
      have hhe6 := sf1 HHE.out
      obtain ⟨s6, es6⟩ : ∃ s6, s6 = skipS K s2 (ls.take i) := ⟨_, rfl⟩
      rw [← es6] at hcap6 hhe6 HC6 sf2
      have HCAP := Lib.hid hcap6
      have HH6 := Lib.hid hhe6
      have ES6 := Lib.hid es6
      have HN6 := Lib.hid sf2
      clear sf1 sf2 sf3 sf4 hcap6 hhe6 es6
      by_cases hlt : i < L
      · obtain ⟨bb, off, rfl, hbb, ho0, ho1⟩ := HLS.out.at HC6.out.bel (i := i) (by rw [← EL.out]; exact hlt)
        obtain ⟨o, eo⟩ : ∃ o, o = ls.getD i d0 := ⟨_, rfl⟩
        rw [← eo] at ho0 ho1
        have k0 := ho1.c0
        have k1 := ho1.c1
        have k2 := ho1.c2
        have k3 := ho1.c3
        have htk := touches_ok wr o K ho1.rd
        have HO0 := Lib.hid ho0
        have EO := Lib.hid eo
        unfold OpV.agg at htk
        have HTK := Lib.hid htk
        clear ho0 ho1 eo htk
        have hend : ∀ wq Oq sq, Cur wa wq d sq Oq → Held sq K (padF pu.txt sz) → sq.nb = nb → sq = skipS K s2 (ls.take (i + 1)) → True := fun _ _ _ _ _ _ _ => trivial
        clear hend
        have hsk : skipS K s2 (ls.take (i + 1)) = if touchB o K = true then s6 else callS s6 o := by
          rw [skipS_succ K s2 ls i (by rw [← EL.out]; exact hlt) d0, ← EO.out, ← ES6.out]
        have HSK := Lib.hid hsk
        clear hsk
        go_wp2_with fail
        refine HTK.out.mono ?_
        rintro e w7 ⟨rfl, hb7⟩
        have hcur7 := HC6.out.below hb7
        have HC7 := Lib.hid hcur7
        clear hcur7 hb7 HC6 HTK k0 k1 k2 k3
        cases htb : touchB o K
        · obtain ⟨bb2, off2, e2, ho0, ho1⟩ : ∃ bb2 off2, (some ⟨bb, off, none⟩ : Option Addr) = some ⟨bb2, off2, none⟩ ∧ OpR1 wa bb2 (off2 + i * 4) o ∧ OpR1 w7 bb2 (off2 + i * 4) o := ⟨bb, off, rfl, HO0.out, HO0.out.below hbb HC7.out.bel⟩
          simp only [Option.some.injEq, Addr.mk.injEq] at e2
          obtain ⟨rfl, rfl, _⟩ := e2
          have k0 := ho1.c0
          have k1 := ho1.c1
          have k2 := ho1.c2
          have k3 := ho1.c3
          have hcl := call_ok O6 w7 d s6 o HC7.out.rep (HC7.out.rd ho0.rd) ho0.i1 ho0.i2 ho0.bl ho0.ln (fun k => by have := (HCAP.out k).2; exact this)
          unfold OpV.agg at hcl
          have hsk : skipS K s2 (ls.take (i + 1)) = callS s6 o := by rw [HSK.out, if_neg (by rw [htb]; simp)]
          have hh8 : Held (callS s6 o) K (padF pu.txt sz) := HH6.out.call o htb
          have hg8 := callS_grows s6 o
          obtain ⟨s8, es8⟩ : ∃ s8, s8 = callS s6 o := ⟨_, rfl⟩
          rw [← es8] at hcl hsk hh8 hg8
          have HCL := Lib.hid hcl
          have HSK2 := Lib.hid hsk
          have HH8 := Lib.hid hh8
          have HN8 := Lib.hid (show s8.nb = nb by rw [hg8.1, HN6.out, HN5.out])
          clear ho0 ho1 hcl hsk hh8 hg8 es8 HSK
          go_wp2_with fail
          refine HCL.out.mono ?_
          rintro e w8 ⟨rfl, hst8⟩
          obtain ⟨O8, hcur8, _, _⟩ := HC7.out.step hst8
          have HC8 := Lib.hid hcur8
          clear hst8 hcur8 HC7 HCL k0 k1 k2 k3
          have hdu := durable_ok O8 w8 d s8 K HC8.out.rep
          obtain ⟨hd1, hd2⟩ := dur_held HH8.out (by rw [HN8.out]; exact hKn)
          rw [hd1, hd2] at hdu
          have HDU := Lib.hid hdu
          clear hdu hd1 hd2
          go_wp2_with fail
          refine HDU.out.mono ?_
          rintro e w9 ⟨x, er, rfl, hx9, her9, hon9, hd9⟩
          obtain rfl := her9.nil rfl
          have hcur9 := HC8.out.same hon9 hd9
          obtain ⟨Ax, cx, rfl⟩ := hx9.rd.slice
          obtain ⟨nx, enx⟩ : ∃ nx, nx = (padF pu.txt sz).length := ⟨_, rfl⟩
          have hrx : Rd .u8 w9 (.slice Ax nx cx) (padF pu.txt sz) := by rw [enx]; exact hx9.rd
          rw [← enx]
          obtain ⟨q0, q1, q2⟩ := HPC.out w9 hcur9.bel
          have HC9 := Lib.hid hcur9
          have HX9 := Lib.hid hrx
          have HBY9 := Lib.hid (HBY.out w9 hcur9.bel)
          clear hx9 her9 hon9 hd9 hcur9 enx hrx HDU
          go_wp2_with fail
          refine HBY9.out.mono ?_
          rintro e w10 ⟨B10, rfl, hB10, hrow10, hb10⟩
          have hrd10 := hrow10.rd (padF pu.txt sz) sz (by rw [padF_len]; exact Nat.le_refl _) (by rw [padF_len]; exact Nat.le_refl _) (fun i hi => rfl)
          have hsm := sameB_ok _ _ _ _ w10 (HX9.out.below hb10) hrd10 (by rw [padF_len]; unfold maxLen; omega) (by rw [padF_len]; unfold maxLen; omega)
          rw [padF_len, show decide (padF pu.txt sz = padF pu.txt sz) = true from decide_eq_true rfl] at hsm
          have HSM := Lib.hid hsm
          have HC10 := Lib.hid (HC9.out.below hb10)
          clear hB10 hrow10 hb10 hrd10 hsm q0 q1 q2 HC9 HBY9 HX9
          go_wp2_with fail
          refine HSM.out.mono ?_
          rintro e w11 ⟨m11, rfl, hw11⟩
          have hcur11 : Cur wa w11 d s8 O8 := by rw [hw11]; exact HC10.out.below (below_drewN (Below.refl _ _) m11)
          have HC11 := Lib.hid hcur11
          clear hw11 hcur11 HSM HC10
          go_wp2_with fail
          go_roundw
          case rel => exact ⟨i + 1, by omega, by go_num, O8, by rw [HSK2.out]; exact HC11.out⟩
          case measure => simp [intOf] <;> omega
        · have hsk : skipS K s2 (ls.take (i + 1)) = s6 := by rw [HSK.out, if_pos htb]
          have HSK2 := Lib.hid hsk
          have HN8 := Lib.hid (show s6.nb = nb by rw [HN6.out, HN5.out])
          clear hsk HSK
          have hdu := durable_ok O6 w7 d s6 K HC7.out.rep
          obtain ⟨hd1, hd2⟩ := dur_held HH6.out (by rw [HN8.out]; exact hKn)
          rw [hd1, hd2] at hdu
          have HDU := Lib.hid hdu
          clear hdu hd1 hd2
          go_wp2_with fail
          refine HDU.out.mono ?_
          rintro e w9 ⟨x, er, rfl, hx9, her9, hon9, hd9⟩
          obtain rfl := her9.nil rfl
          have hcur9 := HC7.out.same hon9 hd9
          obtain ⟨Ax, cx, rfl⟩ := hx9.rd.slice
          obtain ⟨nx, enx⟩ : ∃ nx, nx = (padF pu.txt sz).length := ⟨_, rfl⟩
          have hrx : Rd .u8 w9 (.slice Ax nx cx) (padF pu.txt sz) := by rw [enx]; exact hx9.rd
          rw [← enx]
          obtain ⟨q0, q1, q2⟩ := HPC.out w9 hcur9.bel
          have HC9 := Lib.hid hcur9
          have HX9 := Lib.hid hrx
          have HBY9 := Lib.hid (HBY.out w9 hcur9.bel)
          clear hx9 her9 hon9 hd9 hcur9 enx hrx HDU
          go_wp2_with fail
          refine HBY9.out.mono ?_
          rintro e w10 ⟨B10, rfl, hB10, hrow10, hb10⟩
          have hrd10 := hrow10.rd (padF pu.txt sz) sz (by rw [padF_len]; exact Nat.le_refl _) (by rw [padF_len]; exact Nat.le_refl _) (fun i hi => rfl)
          have hsm := sameB_ok _ _ _ _ w10 (HX9.out.below hb10) hrd10 (by rw [padF_len]; unfold maxLen; omega) (by rw [padF_len]; unfold maxLen; omega)
          rw [padF_len, show decide (padF pu.txt sz = padF pu.txt sz) = true from decide_eq_true rfl] at hsm
          have HSM := Lib.hid hsm
          have HC10 := Lib.hid (HC9.out.below hb10)
          clear hB10 hrow10 hb10 hrd10 hsm q0 q1 q2 HC9 HBY9 HX9
          go_wp2_with fail
          refine HSM.out.mono ?_
          rintro e w11 ⟨m11, rfl, hw11⟩
          have hcur11 : Cur wa w11 d s6 O6 := by rw [hw11]; exact HC10.out.below (below_drewN (Below.refl _ _) m11)
          have HC11 := Lib.hid hcur11
          clear hw11 hcur11 HSM HC10
          go_wp2_with fail
          go_roundw
          case rel => exact ⟨i + 1, by omega, by go_num, O6, by rw [HSK2.out]; exact HC11.out⟩
          case measure => simp [intOf] <;> omega
      · obtain rfl : L = i := by omega
        have hcr := crash_ok O6 wr d s6 _ ks HC6.out.rep (HC6.out.rd HK.out) HKB.out HKL.out (fun k => by have := (HCAP.out k).1; omega)
        have hhc := HH6.out.crash ks
        obtain ⟨s7, es7⟩ : ∃ s7, s7 = crashS s6 ks := ⟨_, rfl⟩
        have ho7 : s7.off = false := by rw [es7]; rfl
        have hn7 : s7.nb = nb := by rw [es7]; exact HN6.out.trans HN5.out
        rw [← es7] at hcr hhc
        have HCR := Lib.hid hcr
        have HH7 := Lib.hid hhc
        have HO7 := Lib.hid ho7
        have HN7 := Lib.hid hn7
        clear hcr hhc es7 ho7 hn7
        go_wp2_with fail
        refine HCR.out.mono ?_
        rintro e w7 ⟨rfl, hst7⟩
        obtain ⟨O7, hcur7, _, _⟩ := HC6.out.step hst7
        have hrd := read_ok O7 w7 d s7 K hcur7.rep (by rw [show ((K : Int)).toNat = K by omega, HH7.out.ca]; simp)
        obtain ⟨hr1, hr2⟩ := read_held HH7.out (by rw [HN7.out]; exact hKn) HO7.out
        rw [hr1, hr2] at hrd
        have hh8 : Held (readS s7 K) K (padF pu.txt sz) := HH7.out.read K
        obtain ⟨s8, es8⟩ : ∃ s8, s8 = readS s7 K := ⟨_, rfl⟩
        rw [← es8] at hrd hh8
        have HRD := Lib.hid hrd
        have HC7 := Lib.hid hcur7
        have HH8 := Lib.hid hh8
        clear hst7 hcur7 hrd hr1 hr2 hh8 es8 HC6 HCR
        go_wp2_with fail
        refine HRD.out.mono ?_
        rintro e w9 ⟨x, er, rfl, hx9, her9, hon9, hd9⟩
        obtain rfl := her9.nil rfl
        have hcur9 := HC7.out.same hon9 hd9
        obtain ⟨Ax, cx, rfl⟩ := hx9.rd.slice
        obtain ⟨nx, enx⟩ : ∃ nx, nx = (padF pu.txt sz).length := ⟨_, rfl⟩
        have hrx : Rd .u8 w9 (.slice Ax nx cx) (padF pu.txt sz) := by rw [enx]; exact hx9.rd
        rw [← enx]
        obtain ⟨q0, q1, q2⟩ := HPC.out w9 hcur9.bel
        have HC9 := Lib.hid hcur9
        have HX9 := Lib.hid hrx
        have HBY9 := Lib.hid (HBY.out w9 hcur9.bel)
        clear hx9 her9 hon9 hd9 hcur9 enx hrx HRD
        go_wp2_with fail
        refine HBY9.out.mono ?_
        rintro e w10 ⟨B10, rfl, hB10, hrow10, hb10⟩
        have hrd10 := hrow10.rd (padF pu.txt sz) sz (by rw [padF_len]; exact Nat.le_refl _) (by rw [padF_len]; exact Nat.le_refl _) (fun i hi => rfl)
        have hsm := sameB_ok _ _ _ _ w10 (HX9.out.below hb10) hrd10 (by rw [padF_len]; unfold maxLen; omega) (by rw [padF_len]; unfold maxLen; omega)
        rw [padF_len, show decide (padF pu.txt sz = padF pu.txt sz) = true from decide_eq_true rfl] at hsm
        have HSM := Lib.hid hsm
        have HC10 := Lib.hid (HC9.out.below hb10)
        clear hB10 hrow10 hb10 hrd10 hsm q0 q1 q2 HC9 HBY9 HX9
        go_wp2_with fail
        refine HSM.out.mono ?_
        rintro e w11 ⟨m11, rfl, hw11⟩
        have hcur11 : Cur wa w11 d s8 O7 := by rw [hw11]; exact HC10.out.below (below_drewN (Below.refl _ _) m11)
        have hwt := waiting_ok O7 w11 d s8 K (i64_nat K (by omega)) hcur11.rep
        rw [wait_held HH8.out] at hwt
        have HWT := Lib.hid hwt
        have hfin : Q (.returned (.bool true)) w11 := by
          rw [EQ.out]
          exact ⟨rfl, HBA.out.trans (hcur11.bel.mono (by have := HBA.out.size; omega))⟩
        have HF := Lib.hid hfin
        clear hw11 hcur11 hwt hfin HSM HC10
        go_wp2_with fail
        refine HWT.out.mono ?_
        rintro e w' ⟨rfl, rfl⟩
        go_wp2_with fail
        first | exact HF.out | (go_ret; exact HF.out)
  · obtain ⟨wa, ewa⟩ : ∃ wa, wa = w.alloc (.cells #[.int .i64 pu.blk, .slice Au pu.txt.length cu, .bool pu.past] 38) := ⟨_, rfl⟩
    have hus := usable_ok wa nb sz
    rw [usableB_no hu] at hus
    have HUS := Lib.hid hus
    have HF := Lib.hid (show Q (.returned (.bool true)) wa by rw [eQ, ewa]; exact ⟨rfl, (Below.refl _ _).alloc (Nat.le_refl _) _⟩)
    have EWA := Lib.hid ewa
    rw [show pu.agg = .agg #[.int .i64 pu.blk, .slice Au pu.txt.length cu, .bool pu.past] by unfold PutV.agg; rw [eu]]
    clear hus hu ho hp hk hl hu1 eQ eu ewa
    go_enter Try.func7, Try.ntmps7
    go_wp2_with fail
    rw [← EWA.out]
    refine HUS.out.mono ?_
    rintro e w' ⟨rfl, rfl⟩
    go_wp2_with fail
    first | exact HF.out | (go_ret; exact HF.out)
end Go.Proofs.Ytigfcoibbmndpaa
