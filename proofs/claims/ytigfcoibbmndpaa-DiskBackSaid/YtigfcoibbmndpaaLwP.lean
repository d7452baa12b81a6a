/- Load of Image: DiskBack, the walk. -/
import Derived.Test.YtigfcoibbmndpaaLwL
import Derived.Test.YtigfcoibbmndpaaLwO
import Derived.Outline
namespace Go.Proofs.Ytigfcoibbmndpaa
open Go.RowKit
open Go.ChangeMaps
set_option linter.unusedVariables false
set_option linter.unusedSimpArgs false
theorem imgL_part {s : DSt} (h : DWf s) (n k : Nat) (hn : n ≤ s.nb) (hk : k < n) : ((imgL s n).drop (k * s.sz)).take s.sz = imgB s k := by
  induction n with
  | zero => omega
  | succ n ih =>
    rw [imgL_succ]
    have hl := imgL_len h n (by omega)
    by_cases e : k = n
    · subst e
      rw [List.drop_append_of_le_length (by omega), ← hl, List.drop_length, List.nil_append, List.take_of_length_le]
      rw [imgB_len h (by omega)]; exact Nat.le_refl _
    · have hfit : k * s.sz + s.sz ≤ n * s.sz := by rw [← Nat.succ_mul]; exact Nat.mul_le_mul_right _ (by omega)
      rw [List.drop_append_of_le_length (by omega), List.take_append_of_le_length (by rw [List.length_drop]; omega)]
      exact ih (by omega) (by omega)
/-- The loaded disk: what it holds. -/
structure Back (s t : DSt) : Prop where
  nb : t.nb = s.nb
  sz : t.sz = s.sz
  ca : ∀ k, t.ca k = []
  sp : ∀ k, t.sp k = false
  off : t.off = false
  du : ∀ k, k < s.nb → t.dur k = imgB s k
theorem Back.load {s : DSt} (h : DWf s) {nb sz : Nat} (h1 : s.nb = nb) (h2 : s.sz = sz) : Back s (loadS nb sz (imgL s s.nb)) :=
  ⟨h1.symm, h2.symm, fun _ => rfl, fun _ => rfl, rfl, fun k hk => by
    show ((imgL s s.nb).drop (k * sz)).take sz = _
    rw [← h2]; exact imgL_part h s.nb k (Nat.le_refl _) hk⟩
theorem Back.c0 {s t : DSt} (h : Back s t) (c : Int) : Back s (withC0 t c) := ⟨h.nb, h.sz, h.ca, h.sp, h.off, h.du⟩
theorem Back.held {s t : DSt} (h : Back s t) {k : Nat} (hk : k < s.nb) : Held t k (imgB s k) := ⟨h.du k hk, h.sp k, h.ca k⟩
theorem Back.img {s t : DSt} (h : Back s t) : imgL t t.nb = imgL s s.nb := by
  unfold imgL
  rw [h.nb]
  have : ∀ n, n ≤ s.nb → (List.range n).flatMap (imgB t) = (List.range n).flatMap (imgB s) := by
    intro n
    induction n with
    | zero => intro _; rfl
    | succ n ih =>
      intro hn
      rw [List.range_succ, List.flatMap_append, List.flatMap_append, ih (by omega)]
      congr 1
      simp only [List.flatMap_cons, List.flatMap_nil, List.append_nil]
      show (if t.sp n = true then _ else t.dur n) = _
      rw [h.sp n, h.du n (by omega)]
      rfl
  exact this s.nb (Nat.le_refl _)
theorem dur_img {s : DSt} {k : Nat} (hk : k < s.nb) : (s.sp k = true → durE s k = 21 ∧ durX s k = [] ∧ imgB s k = List.replicate s.sz 0) ∧ (s.sp k = false → durE s k = 0 ∧ durX s k = imgB s k) := by
  have hin : s.inr k := ⟨by omega, by omega⟩
  have e : durE s k = if s.sp k = true then 21 else 0 := by
    unfold durE
    rw [if_neg (fun h => h hin), show ((k : Int)).toNat = k by omega]
  constructor
  · intro h
    rw [h] at e
    refine ⟨e, ?_, ?_⟩
    · unfold durX; rw [e]; rfl
    · unfold imgB; rw [if_pos h]
  · intro h
    rw [h] at e
    refine ⟨e, ?_⟩
    unfold durX imgB
    rw [e, h, show ((k : Int)).toNat = k by omega]; rfl
set_option maxHeartbeats 2000000 in
set_option maxRecDepth 100000 in
theorem back_law (w : World) (nb sz : Int) (ov pv : Value) (os : List OpV) (ps : List PutV) (ho : OpsR w ov os) (hp : PutsR w pv ps) :
    Calls Try.prog 9 #[.int .i64 nb, .int .i64 sz, ov, pv] w fun e w' => e = .returned (.bool true) ∧ Below w.heap.size w w' := by
  obtain ⟨Q, eQ⟩ : ∃ Q : Ending → World → Prop, Q = fun e w' => e = .returned (.bool true) ∧ Below w.heap.size w w' := ⟨_, rfl⟩
  rw [← eQ]
  have EQ := Lib.hid eQ
  by_cases hu : Usable nb sz
  · have hub := usableB_yes hu
    obtain ⟨hu1, hu2, hu3⟩ := hu
    obtain ⟨nb, rfl⟩ : ∃ n : Nat, nb = n := ⟨nb.toNat, by omega⟩
    obtain ⟨sz, rfl⟩ : ∃ n : Nat, sz = n := ⟨sz.toNat, by omega⟩
    have hsz : Size sz := by unfold Size; omega
    have hus := usable_ok w nb sz
    rw [hub] at hus
    have hfr := freshD_ok w nb sz ov os (by omega) (by omega) hsz ho
    obtain ⟨f1, f2, f3, f4⟩ := freshS_facts nb sz os
    have hnb1 : 1 ≤ nb := by omega
    have hnb2 : nb ≤ 8192 := by omega
    have hsz1 : sz ≤ 1024 := by omega
    obtain ⟨s0, es0⟩ : ∃ s0, s0 = freshS nb sz os := ⟨_, rfl⟩
    rw [← es0] at f1 f2 f3 f4
    unfold FreshQ at hfr
    rw [← es0] at hfr
    have HUS := Lib.hid hus
    have HFR := Lib.hid hfr
    have HP := Lib.hid hp
    have F1 := Lib.hid f1
    have F2 := Lib.hid f2
    have F3 := Lib.hid f3
    have F4 := Lib.hid f4
    have HSZ := Lib.hid hsz
    have hmk := fun w => run_make_row' (P := Try.prog) 24 5 (.int .u8 0) 1 Try.underlying24 hd_info5 rfl .i64 .i64 sz (by omega) (by omega) w
    clear eQ hub hu1 hu2 hu3 hus hfr f1 f2 f3 f4 hp ho es0 hsz
    go_enter Try.func9, Try.ntmps9
    go_wp2_with (go_at_call 10; with_reducible refine HUS.out.mono ?_; rintro e w' ⟨rfl, rfl⟩)
    refine HFR.out.mono ?_
    rintro e w1 ⟨d, O1, rfl, hd1, hO1, hb1⟩
    have hcur1 : Cur w w1 d s0 O1 := ⟨hd1, hO1, hb1⟩
    have hpu := puts_ok O1 w w1 d s0 _ ps hd1 hb1 hO1 HP.out F3.out (fun k => by rw [F4.out]; rfl)
    rw [F1.out, F2.out] at hpu
    have HC1 := Lib.hid hcur1
    have HPU := Lib.hid hpu
    clear hcur1 hpu hd1 hO1 hb1 HFR HUS
    go_wp2_with fail
    refine HPU.out.mono ?_
    rintro e w2 ⟨rfl, hst2⟩
    obtain ⟨O2, hcur2, _, _⟩ := HC1.out.step hst2
    have hg1 := putsS_grows s0 ps
    obtain ⟨s1, es1⟩ : ∃ s1, s1 = putsS s0 ps := ⟨_, rfl⟩
    rw [← es1] at hcur2 hg1
    have N1 := Lib.hid (show s1.nb = nb by rw [hg1.1, F1.out])
    have Z1 := Lib.hid (show s1.sz = sz by rw [hg1.2.1, F2.out])
    have hwf1 := hcur2.rep.wf
    have him := image_ok O2 w2 d s1 hcur2.rep
    have HW1 := Lib.hid hwf1
    have HC2 := Lib.hid hcur2
    have HIM := Lib.hid him
    clear hcur2 hst2 hg1 es1 him hwf1 HC1 HPU
    go_wp2_with fail
    refine HIM.out.mono ?_
    rintro e w3 ⟨x, rfl, hx3, hon3, hd3⟩
    have hcur3 := HC2.out.same hon3 hd3
    have hrx : Rd .u8 w3 x (imgL s1 s1.nb) := own_rd hx3 rfl
    have hxl : (imgL s1 s1.nb).length = nb * sz := by rw [imgL_len HW1.out _ (Nat.le_refl _), N1.out, Z1.out]
    have hld := load_ok w3 nb sz x (imgL s1 s1.nb) hnb1 hnb2 HSZ.out hrx hxl
    have hil : (imgL s1 s1.nb).length ≤ 8388608 := by
      rw [hxl]
      exact Nat.le_trans (Nat.mul_le_mul hnb2 hsz1) (by decide)
    have HIL := Lib.hid hil
    have HC3 := Lib.hid hcur3
    have HLD := Lib.hid hld
    clear hcur3 hx3 hon3 hd3 hrx hxl hld hil HC2 HIM
    go_wp2_with fail
    refine HLD.out.mono ?_
    rintro e w4 ⟨c, P4, rfl, hd4, hP4, hb4⟩
    have htwo := Two.mk' HC3.out hd4 hP4 hb4
    obtain ⟨t0, et0⟩ : ∃ t0, t0 = loadS nb sz (imgL s1 s1.nb) := ⟨_, rfl⟩
    have hbk : Back s1 t0 := by rw [et0]; exact Back.load HW1.out N1.out Z1.out
    rw [← et0] at htwo
    have HT4 := Lib.hid htwo
    have HBK := Lib.hid hbk
    clear hd4 hP4 hb4 htwo hbk et0 HC3 HLD
    go_wp2_with fail
    go_loopw [15, 16, 17, 18, 19, 20, 21] (fun b _ _ _ _ _ _ wr => ∃ i : Nat, i ≤ nb ∧ b = .int .i64 i ∧ ∃ cc P, Two w wr d s1 O2 c (withC0 t0 cc) P) (fun b _ _ _ _ _ _ _ => nb - (intOf b).toNat)
    case atStart => exact ⟨0, Nat.zero_le _, rfl, t0.c0, P4, HT4.out⟩
    case round =>
      obtain ⟨i, hi, rfl, cc, P5, htwo⟩ := hrel
      have HT5 := Lib.hid htwo
      obtain ⟨t5, et5⟩ : ∃ t5, t5 = withC0 t0 cc := ⟨_, rfl⟩
      rw [← et5] at htwo
      have hbk5 : Back s1 t5 := by rw [et5]; exact HBK.out.c0 cc
      have HT5 := Lib.hid htwo
      have HB5 := Lib.hid hbk5
      have ET5 := Lib.hid et5
      clear htwo hbk5 et5 HT4
      by_cases hlt : i < nb
      · have hin : i < s1.nb := by rw [N1.out]; exact hlt
        have hdu := durable_ok O2 wr d s1 i HT5.out.a.rep
        obtain ⟨hz1, hz2⟩ := dur_img hin
        have hdc : ∀ W, DRep P5 W c t5 → Calls Try.prog 36 #[.pointer (some ⟨c, 0, none⟩), .int .i64 i] W (ReadQ P5 W c t5 (imgB s1 i) 0 i) := fun W hW => by
          have h := durable_ok P5 W c t5 i hW
          obtain ⟨h1, h2⟩ := dur_held (HB5.out.held hin) (by rw [HB5.out.nb]; exact hin)
          rw [h1, h2] at h; exact h
        have hrc : ∀ W, DRep P5 W c t5 → Calls Try.prog 22 #[.pointer (some ⟨c, 0, none⟩), .int .i64 i] W (ReadQ P5 W c (readS t5 i) (imgB s1 i) 0 i) := fun W hW => by
          have h := read_ok P5 W c t5 i hW (by rw [HB5.out.ca]; simp)
          obtain ⟨h1, h2⟩ := read_held (HB5.out.held hin) (by rw [HB5.out.nb]; exact hin) HB5.out.off
          rw [h1, h2] at h; exact h
        have hbl : (imgB s1 i).length = sz := by rw [imgB_len HW1.out hin, Z1.out]
        have HZ1 := Lib.hid hz1
        have HZ2 := Lib.hid hz2
        have HDC := Lib.hid hdc
        have HRC := Lib.hid hrc
        have HBL := Lib.hid hbl
        cases hsp : s1.sp i
        · obtain ⟨q1, q2⟩ := hz2 hsp
          rw [q1, q2] at hdu
          have HDU := Lib.hid hdu
          clear hdu hz1 hz2 hdc hrc hbl q1 q2 hin
          go_wp2_with fail
          refine HDU.out.mono ?_
          rintro e w6 ⟨l, er, rfl, hl6, her6, hon6, hd6⟩
          obtain rfl := her6.nil rfl
          have ht6 := HT5.out.sameA hon6 hd6
          have HL6 := Lib.hid hl6
          have HT6 := Lib.hid ht6
          have HDC6 := Lib.hid (HDC.out w6 ht6.b.rep)
          clear hl6 her6 hon6 hd6 ht6 HDU HDC
          go_wp2_with fail
          refine HDC6.out.mono ?_
          rintro e w7 ⟨k, er, rfl, hk7, her7, hon7, hd7⟩
          obtain rfl := her7.nil rfl
          have ht7 := HT6.out.sameB hon7 hd7
          have hl7 := HL6.out.only hon7 (fun b hb _ hc => by have := HT5.out.b.rep.lt hc; omega)
          have HL7 := Lib.hid hl7
          have HK7 := Lib.hid hk7
          have HT7 := Lib.hid ht7
          have HRC7 := Lib.hid (HRC.out w7 ht7.b.rep)
          clear hl7 hk7 her7 hon7 hd7 ht7 HDC6 HRC HL6
          go_wp2_with fail
          refine HRC7.out.mono ?_
          rintro e w8 ⟨r, er, rfl, hr8, her8, hon8, hd8⟩
          obtain rfl := her8.nil rfl
          have ht8 := HT7.out.sameB hon8 hd8
          have hl8 := (HL7.out.only hon8 (fun b hb _ hc => by have := HT5.out.b.rep.lt hc; omega)).rd
          have hk8 := (HK7.out.only hon8 (fun b hb _ hc => by have := HT6.out.b.rep.lt hc; omega)).rd
          have hrr := hr8.rd
          obtain ⟨c9, ec9⟩ := readS_c0 t0 cc i
          rw [ET5.out, ec9] at ht8
          obtain ⟨Al, cl, rfl⟩ := hl8.slice
          obtain ⟨Ak, ck, rfl⟩ := hk8.slice
          obtain ⟨Ar, cr, rfl⟩ := hrr.slice
          rw [HBL.out] at hl8 hk8 hrr ⊢
          have hsm1 := sameB_ok _ _ _ _ w8 hk8 hrr (by rw [HBL.out]; unfold maxLen; omega) (by rw [HBL.out]; unfold maxLen; omega)
          have hsm2 : ∀ m, Calls Try.prog 17 #[.slice Al sz cl, .slice Ak sz ck] (w8.drewN m) (SameP (w8.drewN m) true) := fun m => by
            have h := sameB_ok _ _ _ _ (w8.drewN m) (hl8.below (below_drewN (Below.refl _ _) m)) (hk8.below (below_drewN (Below.refl _ _) m)) (by rw [HBL.out]; unfold maxLen; omega) (by rw [HBL.out]; unfold maxLen; omega)
            rw [show decide (imgB s1 i = imgB s1 i) = true from decide_eq_true rfl] at h
            exact h
          rw [show decide (imgB s1 i = imgB s1 i) = true from decide_eq_true rfl] at hsm1
          have HS1 := Lib.hid hsm1
          have HS2 := Lib.hid hsm2
          have HT8 := Lib.hid ht8
          clear hr8 her8 hon8 hd8 ht8 hl8 hk8 hrr hsm1 hsm2 HRC7 ec9 HL7 HK7 HT7
          go_wp2_with fail
          refine HS1.out.mono ?_
          rintro e w9 ⟨m9, rfl, hw9⟩
          have HS9 := Lib.hid (HS2.out m9)
          rw [← hw9] at HS9
          have HW9 := Lib.hid hw9
          clear hw9 HS1 HS2
          go_wp2_with fail
          refine HS9.out.mono ?_
          rintro e w10 ⟨m10, rfl, hw10⟩
          have ht10 : Two w w10 d s1 O2 c (withC0 t0 c9) P5 := by
            rw [hw10, HW9.out]
            exact HT8.out.below (below_drewN (below_drewN (Below.refl _ _) m9) m10)
          have HT10 := Lib.hid ht10
          clear ht10 hw10 HS9
          go_wp2_with fail
          go_roundw
          case rel => exact ⟨i + 1, by omega, by go_num, c9, P5, HT10.out⟩
          case measure => simp [intOf] <;> omega
        · obtain ⟨q1, q2, q3⟩ := hz1 hsp
          rw [q1, q2] at hdu
          have HDU := Lib.hid hdu
          have Q3 := Lib.hid q3
          clear hdu hz1 hz2 hdc hrc hbl q1 q2 q3 hin
          go_wp2_with fail
          refine HDU.out.mono ?_
          rintro e w6 ⟨l, er, rfl, hl6, her6, hon6, hd6⟩
          obtain ⟨be, rfl⟩ := her6.some (by decide)
          have ht6 := HT5.out.sameA hon6 hd6
          have HT6 := Lib.hid ht6
          have HDC6 := Lib.hid (HDC.out w6 ht6.b.rep)
          obtain ⟨Al, cl, rfl⟩ := hl6.rd.slice
          clear hl6 her6 hon6 hd6 ht6 HDU HDC
          go_wp2_with fail
          refine HDC6.out.mono ?_
          rintro e w7 ⟨k, er, rfl, hk7, her7, hon7, hd7⟩
          obtain rfl := her7.nil rfl
          have ht7 := HT6.out.sameB hon7 hd7
          have HK7 := Lib.hid hk7
          have HT7 := Lib.hid ht7
          have HRC7 := Lib.hid (HRC.out w7 ht7.b.rep)
          clear hk7 her7 hon7 hd7 ht7 HDC6 HRC
          go_wp2_with fail
          refine HRC7.out.mono ?_
          rintro e w8 ⟨r, er, rfl, hr8, her8, hon8, hd8⟩
          obtain rfl := her8.nil rfl
          have ht8 := HT7.out.sameB hon8 hd8
          have hk8 := (HK7.out.only hon8 (fun b hb _ hc => by have := HT6.out.b.rep.lt hc; omega)).rd
          have hrr := hr8.rd
          obtain ⟨c9, ec9⟩ := readS_c0 t0 cc i
          rw [ET5.out, ec9] at ht8
          obtain ⟨Ak, ck, rfl⟩ := hk8.slice
          obtain ⟨Ar, cr, rfl⟩ := hrr.slice
          rw [HBL.out] at hk8 hrr ⊢
          have hsm1 := sameB_ok _ _ _ _ w8 hk8 hrr (by rw [HBL.out]; unfold maxLen; omega) (by rw [HBL.out]; unfold maxLen; omega)
          rw [show decide (imgB s1 i = imgB s1 i) = true from decide_eq_true rfl] at hsm1
          have HS1 := Lib.hid hsm1
          have HK8 := Lib.hid hk8
          have HT8 := Lib.hid ht8
          clear hr8 her8 hon8 hd8 ht8 hk8 hrr hsm1 HRC7 ec9 HK7 HT7
          go_wp2_with fail
          refine HS1.out.mono ?_
          rintro e w9 ⟨m9, rfl, hw9⟩
          have HT9 : Hid (Two w w9 d s1 O2 c (withC0 t0 c9) P5) := Lib.hid (by rw [hw9]; exact HT8.out.below (below_drewN (Below.refl _ _) m9))
          have HK9 : Hid (Rd .u8 w9 (.slice Ak sz ck) (imgB s1 i)) := Lib.hid (by rw [hw9]; exact HK8.out.below (below_drewN (Below.refl _ _) m9))
          have hba : Below w9.heap.size w9 (w9.alloc (.cells (madeCells #[.int .u8 0] sz) 5)) := (Below.refl _ _).alloc (Nat.le_refl _) _
          have hrow : RowA .u8 5 (w9.alloc (.cells (madeCells #[.int .u8 0] sz) 5)) w9.heap.size sz (fun _ => 0) := RowA.made .u8 5 w9 sz
          have hrl := hrow.rd (List.replicate sz 0) sz (by simp) (by simp) (fun t ht => by simp [List.getD_eq_getElem?_getD, List.getElem?_replicate]; split <;> rfl)
          rw [List.length_replicate] at hrl
          have hz3 : imgB s1 i = List.replicate sz 0 := by rw [Q3.out, Z1.out]
          rw [← hz3] at hrl
          have hsm2 := sameB_ok _ _ _ _ (w9.alloc (.cells (madeCells #[.int .u8 0] sz) 5)) hrl (HK9.out.below hba) (by rw [HBL.out]; unfold maxLen; omega) (by rw [HBL.out]; unfold maxLen; omega)
          rw [show decide (imgB s1 i = imgB s1 i) = true from decide_eq_true rfl] at hsm2
          have HS2 := Lib.hid hsm2
          have HBA := Lib.hid hba
          clear hw9 HS1 HK8 HK9 hba hrow hrl hz3 hsm2
          go_wp2_with fail
          refine HS2.out.mono ?_
          rintro e w10 ⟨m10, rfl, hw10⟩
          have ht10 : Two w w10 d s1 O2 c (withC0 t0 c9) P5 := by
            rw [hw10]
            exact HT9.out.below (below_drewN HBA.out m10)
          have HT10 := Lib.hid ht10
          clear ht10 hw10 HS2 HBA
          go_wp2_with fail
          go_roundw
          case rel => exact ⟨i + 1, by omega, by go_num, c9, P5, HT10.out⟩
          case measure => simp [intOf] <;> omega
      · obtain rfl : nb = i := by omega
        have him := image_ok P5 wr c t5 HT5.out.b.rep
        have HIM := Lib.hid him
        clear him
        go_wp2_with fail
        refine HIM.out.mono ?_
        rintro e w6 ⟨x6, rfl, hx6, hon6, hd6⟩
        have ht6 := HT5.out.sameB hon6 hd6
        have him7 := image_ok O2 w6 d s1 ht6.a.rep
        rw [HB5.out.img] at hx6
        have HX6 := Lib.hid hx6
        have HT6 := Lib.hid ht6
        have HIM7 := Lib.hid him7
        clear hx6 hon6 hd6 ht6 him7 HIM
        go_wp2_with fail
        refine HIM7.out.mono ?_
        rintro e w7 ⟨x7, rfl, hx7, hon7, hd7⟩
        have ht7 := HT6.out.sameA hon7 hd7
        have r6 : Rd .u8 w7 x6 (imgL s1 s1.nb) := own_rd (own_only2 HX6.out hon7 (fun g hg _ hc => by have := HT5.out.a.rep.lt hc; omega)) rfl
        have r7 : Rd .u8 w7 x7 (imgL s1 s1.nb) := own_rd hx7 rfl
        have hsm := sameB_ok _ _ _ _ w7 r6 r7 (by have := HIL.out; unfold maxLen; omega) (by have := HIL.out; unfold maxLen; omega)
        rw [show decide (imgL s1 s1.nb = imgL s1 s1.nb) = true from decide_eq_true rfl] at hsm
        have HSM := Lib.hid hsm
        have HT7 := Lib.hid ht7
        obtain ⟨A6, n6, q6, rfl⟩ := own_slice HX6.out
        obtain ⟨A7, n7, q7, rfl⟩ := own_slice hx7
        clear hx7 hon7 hd7 ht7 r6 r7 hsm HIM7 HX6
        go_wp2_with fail
        refine HSM.out.mono ?_
        rintro e w8 ⟨m8, rfl, hw8⟩
        have hF : Q (.returned (.bool true)) w8 := by
          rw [EQ.out, hw8]
          exact ⟨rfl, below_drewN HT7.out.a.bel m8⟩
        have HF := Lib.hid hF
        clear hF hw8 HSM
        go_wp2_with fail
        first | exact HF.out | (go_ret; exact HF.out)
  · have hus := usable_ok w nb sz
    rw [usableB_no hu] at hus
    have HUS := Lib.hid hus
    have HF := Lib.hid (show Q (.returned (.bool true)) w by rw [eQ]; exact ⟨rfl, Below.refl _ _⟩)
    clear hus hu ho hp eQ
    go_enter Try.func9, Try.ntmps9
    go_wp2_with (go_at_call 10; with_reducible refine HUS.out.mono ?_; rintro e w' ⟨rfl, rfl⟩)
    first | exact HF.out | (go_ret; exact HF.out)
end Go.Proofs.Ytigfcoibbmndpaa
