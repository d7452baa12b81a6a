/- A crash of a disk that has crashed changes nothing: DiskAgain. -/
import Derived.Test.YtigfcoibbmndpaaLwH
import Derived.Outline
import Derived.Deep.RegionWith
import Derived.Deep.Cut
namespace Go.Proofs.Ytigfcoibbmndpaa
open Go.RowKit
open Go.ChangeMaps
set_option linter.unusedVariables false
set_option linter.unusedSimpArgs false
/-- A disk of the run under way: behind the input w. -/
structure Cur (w wc : World) (d : Nat) (s : DSt) (O : Nat → Prop) : Prop where
  rep : DRep O wc d s
  new : ∀ b, O b → w.heap.size ≤ b
  bel : Below w.heap.size w wc
theorem Cur.step {w wc w2 : World} {d : Nat} {s s2 : DSt} {O : Nat → Prop} (h : Cur w wc d s O) (hst : DStep O wc w2 d s2) : ∃ O2, Cur w w2 d s2 O2 ∧ (∀ b, O2 b → O b ∨ wc.heap.size ≤ b) ∧ OnlyP O wc w2 := by
  obtain ⟨hon, O2, hd, hO⟩ := hst
  exact ⟨O2, ⟨hd, fun b hb => (hO b hb).elim (h.new b) (fun g => Nat.le_trans h.bel.size g), h.bel.trans (hon.below h.bel.size h.new)⟩, hO, hon⟩
theorem Cur.same {w wc w2 : World} {d : Nat} {s s2 : DSt} {O : Nat → Prop} (h : Cur w wc d s O) (ho : OnlyP O wc w2) (hd : DRep O w2 d s2) : Cur w w2 d s2 O := ⟨hd, h.new, h.bel.trans (ho.below h.bel.size h.new)⟩
theorem Cur.below {w wc w2 : World} {d : Nat} {s : DSt} {O : Nat → Prop} (h : Cur w wc d s O) (hb : Below wc.heap.size wc w2) : Cur w w2 d s O := ⟨h.rep.below hb, h.new, h.bel.trans (hb.mono h.bel.size)⟩
theorem Cur.rd {w wc : World} {d : Nat} {s : DSt} {O : Nat → Prop} {v : Value} {xs : List Int} (h : Cur w wc d s O) (hr : Rd .u8 w v xs) : RdN O wc v xs := rdN_old hr (Nat.le_refl _) h.bel h.new
theorem freshS_facts (nb sz : Nat) (os : List OpV) : (freshS nb sz os).nb = nb ∧ (freshS nb sz os).sz = sz ∧ Live (freshS nb sz os) ∧ ∀ k, (freshS nb sz os).ca k = [] := by
  have h := runS_grows (newS nb sz) os 0
  exact ⟨h.1, h.2.1, ⟨rfl, rfl⟩, fun k => rfl⟩
theorem crashS_ca (s : DSt) (ps : List Int) (k : Nat) : (crashS s ps).ca k = [] := rfl
/-- A crash of a disk without cached writes. -/
theorem crash_again (s : DSt) (ps : List Int) (h : ∀ k, s.ca k = []) (hl : Live s) : crashS s ps = s := by
  have hk : ∀ k, keepK s ps k = 0 := fun k => by
    unfold keepK
    rw [h k]
    exact Nat.le_zero.1 (keepP_le ps k 0)
  obtain ⟨nb, sz, dur, sp, ca, off, fused, fuse, c0, c1, c2, c3⟩ := s
  obtain ⟨h1, h2⟩ := hl
  dsimp only at h h1 h2
  subst h1 h2
  obtain rfl : ca = fun _ => [] := funext h
  unfold crashS allS stS
  have e : ∀ k, keepK { nb := nb, sz := sz, dur := dur, sp := sp, ca := fun _ => [], off := false, fused := false, fuse := fuse, c0 := c0, c1 := c1, c2 := c2, c3 := c3 } ps k = 0 := hk
  simp [e]
theorem readX_len {s : DSt} (h : DWf s) (hc : ∀ k, s.ca k = []) (j : Nat) (hj : j < s.nb) : (readX s j).length ≤ 1024 := by
  unfold readX
  split
  · simp
  · rw [if_neg (by rw [hc]; simp), show ((j : Int)).toNat = j by omega, h.dl j hj]; exact h.sz1
theorem cachedL_nil (s : DSt) (h : ∀ k, s.ca k = []) : cachedL s = [] := by
  unfold cachedL keysL
  rw [List.filter_eq_nil_iff.2 (fun k _ => by unfold hasC; rw [h k]; simp)]
  rfl
set_option maxHeartbeats 1000000 in
set_option maxRecDepth 100000 in
theorem again_law (w : World) (nb sz : Int) (ov pv kv mv : Value) (os : List OpV) (ps : List PutV) (ks ms : List Int) (ho : OpsR w ov os) (hp : PutsR w pv ps) (hk : Rd .u8 w kv ks) (hm : Rd .u8 w mv ms) (hkb : BytesL ks) (hmb : BytesL ms) (hkl : ks.length ≤ 9223372036854775807) (hml : ms.length ≤ 9223372036854775807) :
    Calls Try.prog 8 #[.int .i64 nb, .int .i64 sz, ov, pv, kv, mv] w fun e w' => e = .returned (.bool true) ∧ Below w.heap.size w w' := by
  obtain ⟨Q, eQ⟩ : ∃ Q : Ending → World → Prop, Q = fun e w' => e = .returned (.bool true) ∧ Below w.heap.size w w' := ⟨_, rfl⟩
  rw [← eQ]
  have EQ := Lib.hid eQ
  by_cases hu : Usable nb sz
  · have hub := usableB_yes hu
    obtain ⟨hu1, hu2, hu3⟩ := hu
    obtain ⟨nb, rfl⟩ : ∃ n : Nat, nb = n := ⟨nb.toNat, by omega⟩
    obtain ⟨sz, rfl⟩ : ∃ n : Nat, sz = n := ⟨sz.toNat, by omega⟩
    have hsz : Size sz := by unfold Size; omega
    have hus := usable_ok w nb sz
    rw [hub] at hus
    have hfr := freshD_ok w nb sz ov os (by omega) (by omega) hsz ho
    obtain ⟨f1, f2, f3, f4⟩ := freshS_facts nb sz os
    have hnb1 : nb ≤ 8192 := by omega
    obtain ⟨s0, es0⟩ : ∃ s0, s0 = freshS nb sz os := ⟨_, rfl⟩
    rw [← es0] at f1 f2 f3 f4
    unfold FreshQ at hfr
    rw [← es0] at hfr
    obtain ⟨Ak, ck, rfl⟩ := hk.slice
    obtain ⟨Am, cm, rfl⟩ := hm.slice
    have HUS := Lib.hid hus
    have HFR := Lib.hid hfr
    have HP := Lib.hid hp
    have HK := Lib.hid hk
    have HM := Lib.hid hm
    have HKB := Lib.hid hkb
    have HMB := Lib.hid hmb
    have HKL := Lib.hid hkl
    have HML := Lib.hid hml
    have F1 := Lib.hid f1
    have F2 := Lib.hid f2
    have F3 := Lib.hid f3
    have F4 := Lib.hid f4
    clear eQ hub hu1 hu2 hu3 hus hfr f1 f2 f3 f4 hp hk hm hkb hmb hkl hml ho es0 hsz
    go_enter Try.func8, Try.ntmps8
    go_wp2_with (go_at_call 10; with_reducible refine HUS.out.mono ?_; rintro e w' ⟨rfl, rfl⟩)
    refine HFR.out.mono ?_
    rintro e w1 ⟨d, O1, rfl, hd1, hO1, hb1⟩
    have hcur1 : Cur w w1 d s0 O1 := ⟨hd1, hO1, hb1⟩
    have hpu := puts_ok O1 w w1 d s0 pv ps hd1 hb1 hO1 HP.out F3.out (fun k => by rw [F4.out]; rfl)
    rw [F1.out, F2.out] at hpu
    have HC1 := Lib.hid hcur1
    have HPU := Lib.hid hpu
    clear hcur1 hpu hd1 hO1 hb1 HFR HUS
    go_wp2_with fail
    refine HPU.out.mono ?_
    rintro e w2 ⟨rfl, hst2⟩
    obtain ⟨O2, hcur2, _, _⟩ := HC1.out.step hst2
    obtain ⟨s1, es1⟩ : ∃ s1, s1 = putsS s0 ps := ⟨_, rfl⟩
    rw [← es1] at hcur2
    have hg1 := putsS_grows s0 ps
    rw [← es1] at hg1
    have hpl : ps.length * 24 ≤ 140737488351232 := by have := HP.out.1; omega
    have hcr := crash_ok O2 w2 d s1 _ ks hcur2.rep (hcur2.rd HK.out) HKB.out HKL.out (fun k => by have := hg1.2.2 k; rw [F4.out] at this; simp at this; omega)
    have HC2 := Lib.hid hcur2
    have HCR := Lib.hid hcr
    have HG1 := Lib.hid hg1
    clear hcur2 hcr hst2 hg1 HC1 HPU es1
    go_wp2_with fail
    refine HCR.out.mono ?_
    rintro e w3 ⟨rfl, hst3⟩
    obtain ⟨O3, hcur3, _, _⟩ := HC2.out.step hst3
    obtain ⟨s2, es2⟩ : ∃ s2, s2 = crashS s1 ks := ⟨_, rfl⟩
    rw [← es2] at hcur3
    have hl2 : Live s2 := by rw [es2]; exact ⟨rfl, rfl⟩
    have hca2 : ∀ k, s2.ca k = [] := fun k => by rw [es2]; rfl
    have hn2 : s2.nb = nb := by rw [es2]; show s1.nb = nb; rw [HG1.out.1, F1.out]
    have hcc := cached_ok O3 w3 d s2 hcur3.rep
    unfold CachedQ at hcc
    rw [cachedL_nil s2 hca2] at hcc
    have HC3 := Lib.hid hcur3
    have HL2 := Lib.hid hl2
    have HCA2 := Lib.hid hca2
    have HN2 := Lib.hid hn2
    have HCC := Lib.hid hcc
    clear hcur3 hst3 hl2 hca2 hn2 hcc es2 HC2 HCR
    go_wp2_with fail
    refine HCC.out.mono ?_
    rintro e w4 ⟨v, rfl, hrd4, _, hb4⟩
    obtain ⟨Av, cv, rfl⟩ := hrd4.slice
    have hcur4 := HC3.out.below hb4
    have hon4 : Calls Try.prog 24 #[.pointer (some ⟨d, 0, none⟩)] w4 fun e w' => e = .returned (.bool true) ∧ w4 = w' := by
      obtain ⟨m, c, hb⟩ := blkD hcur4.rep
      have h := on_ok w4 d m c s2 hb
      rw [HL2.out.1] at h
      exact h
    have HC4 := Lib.hid hcur4
    have HON4 := Lib.hid hon4
    have hse := seen_ok O3 w4 d s2 hcur4.rep (fun k => by rw [HCA2.out k]; simp)
    rw [HN2.out] at hse
    have HSE := Lib.hid hse
    clear hcur4 hon4 hrd4 hb4 HC3 HCC hse
    go_wp2_with (go_at_call 24; with_reducible refine HON4.out.mono ?_; rintro e w' ⟨rfl, rfl⟩)
    refine HSE.out.mono ?_
    rintro e w5 ⟨bv, ev, c1, rfl, hsv, hon5, hd5⟩
    obtain ⟨Vs, hV, _⟩ := hsv.b
    obtain ⟨A1, n1, q1, rfl⟩ := own_slice hV
    obtain ⟨A2, n2, q2, rfl⟩ := own_slice hsv.e
    have hcur5 := HC4.out.same hon5 hd5
    have HSV := Lib.hid hsv
    have HON5 := Lib.hid hon5
    have HC5 := Lib.hid hcur5
    clear hV hsv hon5 hd5 hcur5 HSE
    obtain ⟨o5, eo5⟩ : ∃ o5, o5 = Obj.cells #[.slice A1 n1 q1, .slice A2 n2 q2] 35 := ⟨_, rfl⟩
    have hbA : Below w5.heap.size w5 (w5.alloc o5) := (Below.refl _ _).alloc (Nat.le_refl _) _
    have hcur6 := HC5.out.below hbA
    have him := image_ok O3 (w5.alloc o5) d _ hcur6.rep
    rw [eo5] at him hcur6
    have HIM := Lib.hid him
    have HC6 := Lib.hid hcur6
    clear him hcur6 hbA eo5
    go_wp2_with fail
    refine HIM.out.mono ?_
    rintro e w7 ⟨x, rfl, hx7, hon7, hd7⟩
    obtain ⟨s3, es3⟩ : ∃ s3, s3 = withC0 s2 c1 := ⟨_, rfl⟩
    rw [← es3] at hx7 hd7
    have hl3 : Live s3 := by rw [es3]; exact HL2.out
    have hca3 : ∀ k, s3.ca k = [] := fun k => by rw [es3]; exact HCA2.out k
    have hn3 : s3.nb = nb := by rw [es3]; exact HN2.out
    have hcur7 := HC6.out.same hon7 hd7
    have hon57 : OnlyP O3 w5 w7 := ((OnlyP.refl O3 w5).alloc _).then hon7
    have hcr7 := crash_ok O3 w7 d s3 _ ms hd7 (hcur7.rd HM.out) HMB.out HML.out (fun k => by rw [hca3 k]; simp)
    rw [crash_again s3 ms hca3 hl3] at hcr7
    have HX7 := Lib.hid hx7
    have HC7 := Lib.hid hcur7
    have HON57 := Lib.hid hon57
    have HON7 := Lib.hid hon7
    have HCA3 := Lib.hid hca3
    have HL3 := Lib.hid hl3
    have HN3 := Lib.hid hn3
    have ES3 := Lib.hid es3
    have HCR7 := Lib.hid hcr7
    clear hx7 hon7 hd7 hcur7 hon57 hca3 hl3 hn3 es3 hcr7 HIM HC6
    go_wp2_with fail
    refine HCR7.out.mono ?_
    rintro e w8 ⟨rfl, hst8⟩
    obtain ⟨O8, hcur8, hO8, hon78⟩ := HC7.out.step hst8
    have hse8 := seen_ok O8 w8 d s3 hcur8.rep (fun k => by rw [HCA3.out k]; simp)
    rw [HN3.out] at hse8
    have HSE8 := Lib.hid hse8
    have HC8 := Lib.hid hcur8
    have HO8 := Lib.hid hO8
    have HON78 := Lib.hid hon78
    clear hse8 hcur8 hO8 hon78 hst8 HCR7
    go_wp2_with fail
    refine HSE8.out.mono ?_
    rintro e w9 ⟨bv2, ev2, c2, rfl, hsv2, hon9, hd9⟩
    obtain ⟨Vs2, hV2, _⟩ := hsv2.b
    obtain ⟨A3, n3, q3, rfl⟩ := own_slice hV2
    obtain ⟨A4, n4, q4, rfl⟩ := own_slice hsv2.e
    have hcur9 := HC8.out.same hon9 hd9
    have HSV2 := Lib.hid hsv2
    have HON9 := Lib.hid hon9
    have HC9 := Lib.hid hcur9
    clear hV2 hsv2 hon9 hd9 hcur9 HSE8
    obtain ⟨o9, eo9⟩ : ∃ o9, o9 = Obj.cells #[.slice A3 n3 q3, .slice A4 n4 q4] 35 := ⟨_, rfl⟩
    have hbB : Below w9.heap.size w9 (w9.alloc o9) := (Below.refl _ _).alloc (Nat.le_refl _) _
    have hcur10 := HC9.out.below hbB
    have him2 := image_ok O8 (w9.alloc o9) d _ hcur10.rep
    rw [eo9] at him2 hcur10
    have HIM2 := Lib.hid him2
    have HC10 := Lib.hid hcur10
    clear him2 hcur10 hbB eo9
    go_wp2_with fail
    refine HIM2.out.mono ?_
    rintro e w11 ⟨y, rfl, hy11, hon11, hd11⟩
    have HY := Lib.hid hy11
    have HON11 := Lib.hid hon11
    have HD11 := Lib.hid hd11
    clear hy11 hon11 hd11 HIM2
    have hz3 := HC4.out.rep.wf
    have hz8 := HC8.out.rep.wf
    have l45 : w4.heap.size ≤ w5.heap.size := HON5.out.size
    have l57 : w5.heap.size + 1 ≤ w7.heap.size := by have := HON7.out.size; simp at this; exact this
    have l89 : w8.heap.size ≤ w9.heap.size := HON9.out.size
    have l9 : w9.heap.size + 1 ≤ w11.heap.size := by have := HON11.out.size; simp at this; exact this
    have o3 : ∀ b, O3 b → b < w4.heap.size := fun b hb => HC4.out.rep.lt hb
    have o8 : ∀ b, O8 b → b < w8.heap.size := fun b hb => HC8.out.rep.lt hb
    have h79 : OnlyP O3 w7 w9 := HON78.out.trans HON9.out HO8.out
    have h711 : OnlyP O3 w7 w11 := (h79.alloc _).trans HON11.out HO8.out
    have h611 := HON7.out.then h711
    have h511 : OnlyP O3 w5 w11 := ((OnlyP.refl O3 w5).alloc _).then h611
    have h911 : OnlyP O8 w9 w11 := ((OnlyP.refl O8 w9).alloc _).then HON11.out
    have bA : Blk w11 w5.heap.size 35 #[.slice A1 n1 q1, .slice A2 n2 q2] := (h611.block _ (by simp) (fun hc => by have := o3 _ hc; omega)).trans (Blk.new w5 _ _)
    have bB : Blk w11 w9.heap.size 35 #[.slice A3 n3 q3, .slice A4 n4 q4] := (HON11.out.block _ (by simp) (fun hc => by have := o8 _ hc; omega)).trans (Blk.new w9 _ _)
    have sA := HSV.out.only h511 (fun b hb _ hc => by have := o3 b hc; omega)
    have sB := HSV2.out.only h911 (fun b hb _ hc => by have := o8 b hc; omega)
    rw [HN2.out] at sA
    rw [HN3.out] at sB
    have hss := sameSeen_ok _ _ w11 _ _ _ _ nb _ _ _ _ sA sB hnb1 (fun j hj => readX_len hz3 HCA2.out j (by rw [HN2.out]; exact hj)) (fun j _ => by rw [ES3.out]; rfl) (fun j _ => by rw [ES3.out]; rfl)
    have rX : Rd .u8 w11 x (imgL s3 s3.nb) := own_rd (own_only2 HX7.out h711 (fun g hg _ hc => by have := o3 g hc; simp at hg; omega)) rfl
    have rY : Rd .u8 w11 y (imgL s3 s3.nb) := own_rd HY.out rfl
    have hil : (imgL s3 s3.nb).length ≤ 8388608 := by
      rw [imgL_len hz8 _ (Nat.le_refl _)]
      exact Nat.le_trans (Nat.mul_le_mul hz8.nb2 hz8.sz1) (by decide)
    have hsb : ∀ W, Below w11.heap.size w11 W → Calls Try.prog 17 #[x, y] W (SameP W true) := fun W hW => by
      have h := sameB_ok x y _ _ W (rX.below hW) (rY.below hW) (by unfold maxLen; omega) (by unfold maxLen; omega)
      rw [show decide (imgL s3 s3.nb = imgL s3 s3.nb) = true from decide_eq_true rfl] at h
      exact h
    have hon12 : ∀ W, Below w11.heap.size w11 W → Calls Try.prog 24 #[.pointer (some ⟨d, 0, none⟩)] W fun e w' => e = .returned (.bool true) ∧ W = w' := fun W hW => by
      obtain ⟨m, c, hb⟩ := blkD (HD11.out.below hW)
      have h := on_ok W d m c _ hb
      rw [show (withC0 s3 c2).off = false from HL3.out.1] at h
      exact h
    have hfin : ∀ W, Below w11.heap.size w11 W → Q (.returned (.bool true)) W := fun W hW => by
      rw [EQ.out]
      exact ⟨rfl, ((HC10.out.same HON11.out HD11.out).below hW).bel⟩
    obtain ⟨Ax, nx, qx, rfl⟩ := own_slice HX7.out
    obtain ⟨Ay, ny, qy, rfl⟩ := own_slice HY.out
    have k0 : w11.cell? ⟨w5.heap.size, 0, none⟩ = some (.slice A1 n1 q1) := bA.cell 0
    have k1 : w11.cell? ⟨w5.heap.size, 1, none⟩ = some (.slice A2 n2 q2) := bA.cell 1
    have k2 : w11.cell? ⟨w9.heap.size, 0, none⟩ = some (.slice A3 n3 q3) := bB.cell 0
    have k3 : w11.cell? ⟨w9.heap.size, 1, none⟩ = some (.slice A4 n4 q4) := bB.cell 1
    have HSS := Lib.hid hss
    have HSB := Lib.hid hsb
    have HON12 := Lib.hid hon12
    have HF := Lib.hid hfin
    clear hss hsb hon12 hfin bA bB sA sB rX rY h79 h711 h611 h511 h911 o3 o8 hz3 hz8 hil l45 l57 l89 l9
    go_wp2_with fail
    refine HSS.out.mono ?_
    rintro e w12 ⟨rfl, hb12⟩
    have HSB12 := Lib.hid (HSB.out w12 hb12)
    have HB12 := Lib.hid hb12
    clear hb12 HSS HSB
    go_wp2_with fail
    refine HSB12.out.mono ?_
    rintro e w13 ⟨m13, rfl, hw13⟩
    have hb13 : Below w11.heap.size w11 w13 := by rw [hw13]; exact below_drewN HB12.out m13
    have HON13 := Lib.hid (HON12.out w13 hb13)
    have HF13 := Lib.hid (HF.out w13 hb13)
    clear hb13 hw13 HON12 HF HSB12
    go_wp2_with fail
    refine HON13.out.mono ?_
    rintro e w' ⟨rfl, rfl⟩
    go_wp2_with fail
    first | exact HF13.out | (go_ret; exact HF13.out)
  · have hus := usable_ok w nb sz
    rw [usableB_no hu] at hus
    have HUS := Lib.hid hus
    have HF := Lib.hid (show Q (.returned (.bool true)) w by rw [eQ]; exact ⟨rfl, Below.refl _ _⟩)
    clear hus hu ho hp hk hm eQ
    go_enter Try.func8, Try.ntmps8
    go_wp2_with (go_at_call 10; with_reducible refine HUS.out.mono ?_; rintro e w' ⟨rfl, rfl⟩)
    first | exact HF.out | (go_ret; exact HF.out)
end Go.Proofs.Ytigfcoibbmndpaa
