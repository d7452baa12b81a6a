/- The law MetaBits. -/
import Derived.Test.YtjcinelcocmpnaaWordsW
import Derived.Test.YtjcinelcocmpnaaSame
import Derived.Test.YtjcinelcocmpnaaRegL
namespace Go.Proofs.Ytjcinelcocmpnaa
open Go.RowKit
set_option linter.unusedVariables false
set_option linter.unusedSimpArgs false
set_option maxHeartbeats 400000 in
theorem bitmapped_no0 (n b : Int) (w : World) (h : n < 1) : Calls Try.prog 29 #[.int .i64 n, .int .i64 b] w fun e w' => e = .returned (.int .i64 1) ∧ w = w' := by
  go_enter Try.func29, Try.ntmps29
  go_wp2_with (fail)
  go_ret
  exact ⟨rfl, rfl⟩
set_option maxHeartbeats 400000 in
theorem bitmapped_no1 (n b : Int) (w : World) (h0 : 1 ≤ n) (h : 65536 < n) : Calls Try.prog 29 #[.int .i64 n, .int .i64 b] w fun e w' => e = .returned (.int .i64 1) ∧ w = w' := by
  go_enter Try.func29, Try.ntmps29
  go_wp2_with (fail)
  go_ret
  exact ⟨rfl, rfl⟩
set_option maxHeartbeats 400000 in
theorem bitmapped_no2 (n b : Int) (w : World) (h0 : 1 ≤ n) (h1 : n ≤ 65536) (h : ¬ okSize b) : Calls Try.prog 29 #[.int .i64 n, .int .i64 b] w fun e w' => e = .returned (.int .i64 1) ∧ w = w' := by
  go_enter Try.func29, Try.ntmps29
  go_wp2_with (go_at_call 23; refine (sized_no _ _ h).mono ?_; rintro e w' ⟨rfl, rfl⟩)
  go_ret
  exact ⟨rfl, rfl⟩
theorem bitmapped_no (n b : Int) (w : World) (h : ¬ (1 ≤ n ∧ n ≤ 65536 ∧ okSize b)) : Calls Try.prog 29 #[.int .i64 n, .int .i64 b] w fun e w' => e = .returned (.int .i64 1) ∧ w = w' := by
  by_cases h1 : n < 1
  · exact bitmapped_no0 n b w h1
  · by_cases h2 : 65536 < n
    · exact bitmapped_no1 n b w (by omega) h2
    · exact bitmapped_no2 n b w (by omega) (by omega) (fun h3 => h ⟨by omega, by omega, h3⟩)
set_option maxHeartbeats 400000 in
theorem pack_arg (n b : Int) (v : Value) (w : World) (h : ¬ (1 ≤ n ∧ n ≤ 65536 ∧ okSize b)) : Calls Try.prog 20 #[.int .i64 n, v, .int .i64 b] w fun e w' => e = .returned (.tuple #[.slice none 0 0, .int .i64 1]) ∧ w = w' := by
  go_enter Try.func20, Try.ntmps20
  go_wp2_with fail
  refine (bitmapped_no _ _ _ h).mono ?_
  rintro e w' ⟨rfl, rfl⟩
  go_wp2_with fail
  go_ret2
  exact ⟨rfl, rfl⟩
set_option maxHeartbeats 1000000 in
set_option maxRecDepth 100000 in
theorem bits_no (n b turn : Int) (v : Value) (q : Bool) (w : World) (hq : ∀ w : World, Calls Try.prog 18 #[.int .i64 b] w fun e w' => e = .returned (.bool q) ∧ w = w')
    (h : ¬ (1 ≤ n ∧ n ≤ 65536 ∧ okSize b)) (hno : q = false ∨ n < 1 ∨ 65536 < n) :
    Calls Try.prog 7 #[.int .i64 n, v, .int .i64 b, .int .i64 turn] w (DoneTrue w) := by
  have HQ := Lib.hid hq
  have HN := Lib.hid h
  clear hq h
  go_enter Try.func7, Try.ntmps7
  go_wp2_with fail
  refine (HQ.out _).mono ?_
  rintro e w2 ⟨rfl, rfl⟩
  cases q
  · go_wp2_with fail
    refine (pack_arg _ _ _ _ HN.out).mono ?_
    rintro e w2 ⟨rfl, rfl⟩
    go_wp2_with fail
    go_ret
    exact ⟨rfl, Below.refl _ _⟩
  · by_cases h1 : n < 1
    · go_wp2_with fail
      refine (pack_arg _ _ _ _ HN.out).mono ?_
      rintro e w2 ⟨rfl, rfl⟩
      go_wp2_with fail
      go_ret
      exact ⟨rfl, Below.refl _ _⟩
    · have h2 : 65536 < n := by simpa [h1] using hno
      go_wp2_with fail
      refine (pack_arg _ _ _ _ HN.out).mono ?_
      rintro e w2 ⟨rfl, rfl⟩
      go_wp2_with fail
      go_ret
      exact ⟨rfl, Below.refl _ _⟩
/-- What the first half of the law has come to. -/
theorem mask_lt (n : Nat) (seed : List Int) (L k : Nat) (hv : ∀ i, i < L → 0 ≤ seed.getD i 0 ∧ seed.getD i 0 < 18446744073709551616) : maskF n (wordF seed L) k < 2 ^ 64 := by
  have h1 : wordF seed L k < 2 ^ 64 := by
    unfold wordF
    split
    · next e => have := hv _ e; omega
    · decide
  unfold maskF
  split
  · exact Nat.lt_of_le_of_lt (Nat.mod_le _ _) h1
  · exact h1
theorem mask_last (n : Nat) (f : Nat → Nat) : n % 64 = 0 ∨ maskF n f ((n + 63) / 64 - 1) < 2 ^ (n % 64) := by
  by_cases h : n % 64 = 0
  · exact .inl h
  · right; unfold maskF; rw [if_pos ⟨h, rfl⟩]; exact Nat.mod_lt _ (Nat.two_pow_pos _)
theorem byte_range (n : Nat) (W : Nat) (f : Nat → Nat) (i0 : Nat) : 0 ≤ pkByte n (fl W fun k => (f k : Int)) i0 ∧ pkByte n (fl W fun k => (f k : Int)) i0 < 256 := by
  unfold pkByte
  split
  · omega
  · omega
set_option maxHeartbeats 2000000 in
set_option maxRecDepth 100000 in
theorem bits_yes (n b : Nat) (turn : Int) (v : Value) (seed : List Int) (w : World) (h1 : 1 ≤ n) (h2 : n ≤ 65536) (hb : okSz b) (hs : Rd .u64 w v seed) (hu : ∀ x ∈ seed, 0 ≤ x ∧ x < 18446744073709551616) :
    Calls Try.prog 7 #[.int .i64 n, v, .int .i64 b, .int .i64 turn] w (DoneTrue w) := by
  obtain ⟨A, hA⟩ : ∃ A, (n + 8 * b - 1) / (8 * b) = A := ⟨_, rfl⟩
  obtain ⟨W, hW⟩ : ∃ W, (n + 63) / 64 = W := ⟨_, rfl⟩
  have hA1 : 1 ≤ A := by rcases hb with rfl | rfl | rfl | rfl <;> omega
  have hA2 : A ≤ 64 := by rcases hb with rfl | rfl | rfl | rfl <;> omega
  have hA3 : ((n : Int) + 8 * b - 1) / (8 * b) = (A : Int) := by rcases hb with rfl | rfl | rfl | rfl <;> omega
  have hb0 : 128 ≤ b := by rcases hb with rfl | rfl | rfl | rfl <;> omega
  have hb9 : b ≤ 1024 := by rcases hb with rfl | rfl | rfl | rfl <;> omega
  have hv : ∀ i, i < seed.length → 0 ≤ seed.getD i 0 ∧ seed.getD i 0 < 18446744073709551616 := fun i hi => hu _ (by rw [List.getD_eq_getElem?_getD, List.getElem?_eq_getElem hi]; simp)
  have hq : ((A : Int) != ((n : Int) + 8 * b - 1) / (8 * b)) = false := by rw [hA3]; simp
  have HA := Lib.hid hA
  have HA3 := Lib.hid hA3
  have HW := Lib.hid hW
  have HV := Lib.hid hv
  have HU := Lib.hid hu
  have HS := Lib.hid hs
  clear hA hA3 hW hv hu hs
  go_enter Try.func7, Try.ntmps7
  go_wp2_with fail
  refine (lsized_yes _ _ hb.int).mono ?_
  rintro e w2 ⟨rfl, rfl⟩
  go_wp2_with fail
  refine (words_ok n W v seed _ h1 h2 HW.out HS.out HU.out).mono ?_
  rintro e w1 ⟨rfl, hP1⟩
  obtain ⟨f, ef⟩ : ∃ f, f = maskF n (wordF seed seed.length) := ⟨_, rfl⟩
  rw [← ef] at hP1
  have hf64 : ∀ k, f k < 2 ^ 64 := fun k => by rw [ef]; exact mask_lt n seed _ k HV.out
  have hfl : n % 64 = 0 ∨ f (W - 1) < 2 ^ (n % 64) := by rw [ef, ← HW.out]; exact mask_last n _
  have HP1 := Lib.hid hP1
  have Hf64 := Lib.hid hf64
  have Hfl := Lib.hid hfl
  have hz1 : w1.heap.size = w.heap.size + 1 := hP1.2.1
  have Hz1 := Lib.hid hz1
  clear hP1 hf64 hfl ef hz1
  go_wp2_with fail
  refine (pack_any n b A W W 0 w.heap.size (fl W fun k => (f k : Int)) _ h1 h2 hb HA.out HW.out (fl_length _ _) (by have := Hz1.out; omega) (fun i hi => by rw [fl_get _ _ _ hi, Nat.zero_add]; exact (HP1.out.word i hi).1)
    (fun x hx => by obtain ⟨k, _, rfl⟩ := fl_mem hx; have := Hf64.out k; omega) ?_).mono ?_
  · rcases Hfl.out with h | h
    · exact .inl h
    · right
      rw [fl_get _ _ _ (by have := HW.out; omega)]
      have : f (W - 1) / 2 ^ (n % 64) = 0 := Nat.div_eq_of_lt h
      have e : ((f (W - 1) : Int) / 2 ^ (n % 64)) = ((f (W - 1) / 2 ^ (n % 64) : Nat) : Int) := by simp
      rw [e, this]; rfl
  rintro e w2 ⟨rfl, hP2⟩
  have HP2 := Lib.hid hP2
  clear hP2
  go_wp2_with fail
  have hz2 : w2.heap.size = w1.heap.size + 1 + A := HP2.out.2.1
  have Hz2 := Lib.hid hz2
  clear hz2
  refine (unpack_any n b A W A 0 w1.heap.size (fun j => fl b fun p => pkByte n (fl W fun k => (f k : Int)) (8 * (b * j + p))) _ h1 h2 hb HA.out HW.out (by have := Hz2.out; omega) (fun i hi => HP2.out.reads (by omega) i hi)
    (fun i _ => .inr (fl_length _ _)) (fun i hi x hx => by obtain ⟨k, _, rfl⟩ := fl_mem hx; exact byte_range n W f _)).mono ?_
  rintro e w3 ⟨rfl, hP3⟩
  rw [lostIn_none _ A (fun i _ => by rw [fl_length]; omega)]
  have hP3' := hP3.congr (fun k hk => pack_back n b A W f hb HA.out HW.out (fun k _ => Hf64.out k) Hfl.out k hk)
  have HP3 := Lib.hid hP3'
  have HB3 := Lib.hid hP3.1
  clear hP3 hP3'
  go_wp2_with fail
  have hW2 : 0 < W := by have := HW.out; omega
  have hW9 : W ≤ 1024 := by have := HW.out; omega
  have hWm : (fl W fun k => (f k : Int)).length ≤ maxLen := by rw [fl_length]; unfold maxLen; omega
  have HWM := Lib.hid hWm
  clear hWm
  have hB12 := HP2.out.1
  refine (sameW_ok _ _ (fl W fun k => (f k : Int)) (fl W fun k => (f k : Int)) _ (HP3.out.reads hW2) (((HP1.out.reads hW2).below HP2.out.1).below HB3.out) HWM.out HWM.out).mono ?_
  rintro e w4 ⟨m, rfl, rfl⟩
  rw [decide_eq_true rfl]
  have hbel0 : Below w.heap.size w w3 := ((HP1.out.1.trans (HP2.out.1.mono (by have := Hz1.out; omega))).trans (HB3.out.mono (by have := Hz1.out; have := Hz2.out; omega)))
  have HBel0 := Lib.hid hbel0
  have hbel : Below w.heap.size w (w3.drewN m) := below_drewN hbel0 m
  have HBel := Lib.hid hbel
  clear hbel hbel0 hB12
  by_cases ht0 : turn < 0
  · go_wp2
    go_ret
    exact ⟨rfl, HBel.out⟩
  by_cases ht1 : (n : Int) ≤ turn
  · go_wp2
    go_ret
    exact ⟨rfl, HBel.out⟩
  obtain ⟨t, rfl⟩ := Int.eq_ofNat_of_zero_le (show 0 ≤ turn by omega)
  have htn : t < n := by omega
  have hw64 : t / 64 < W := by have := HW.out; omega
  have hWd : WdA (w3.drewN m) w.heap.size W f := (HP1.out.wdA.keep (HP2.out.1.block _ (by have := Hz1.out; omega))).keep (HB3.out.block _ (by have := Hz1.out; have := Hz2.out; omega))
  have hPR : PkR (w3.drewN m) w1.heap.size A b (fun i p => pkByte n (fl W fun k => (f k : Int)) (8 * (b * i + p))) := HP2.out.r.keep (fun g hg1 hg2 => HB3.out.block g (by have := Hz2.out; omega))
  have hc : w3.cell? ⟨w.heap.size, t / 64, none⟩ = some (.int .u64 (f (t / 64))) := (hWd.word (t / 64) hw64).1
  have hfr : w3.frozen? ⟨w.heap.size, t / 64, none⟩ = false := (hWd.word (t / 64) hw64).2
  have HWd := Lib.hid hWd
  have HPR := Lib.hid hPR
  clear hWd hPR
  go_wp2_with fail
  go_region
  go_wp2_with fail
  rw [xor_bit _ _ (Hf64.out _) (by omega)]
  obtain ⟨w5, ew5, hs5, hB5, hW5, hR5⟩ : ∃ w5, w5 = (w3.drewN (m + 1)).setCell ⟨w.heap.size, t / 64, none⟩ (.int .u64 ((f (t / 64) ^^^ 2 ^ (t % 64) : Nat) : Int)) ∧ w5.heap.size = w3.heap.size ∧ Below w.heap.size w w5 ∧ WdA w5 w.heap.size W (turnF f t) ∧
      PkR w5 w1.heap.size A b (fun i p => pkByte n (fl W fun k => (f k : Int)) (8 * (b * i + p))) :=
    ⟨_, rfl, by rw [size_setCell]; rfl, (below_drewN HBel0.out (m + 1)).setCell (Nat.le_refl _) _, (show WdA (w3.drewN (m + 1)) _ _ _ from HWd.out).put _ _,
      (show PkR (w3.drewN (m + 1)) _ _ _ _ from HPR.out).keep (fun g hg _ => Below.heap_setCell _ _ _ _ (by have := Hz1.out; simp; omega))⟩
  rw [← ew5]
  have HR5 := Lib.hid hR5
  have HW5 := Lib.hid hW5
  have HS5 := Lib.hid hs5
  clear hR5 hW5 hs5 ew5 hc hfr
  have hsz3 : w1.heap.size + 1 + A < w3.heap.size := by have := HB3.out.size; have := Hz2.out; have := HP3.out.2.1; omega
  have HSZ3 := Lib.hid hsz3
  clear hsz3
  refine (pack_any n b A W W 0 w.heap.size (fl W fun k => (turnF f t k : Int)) _ h1 h2 hb HA.out HW.out (fl_length _ _) HW5.out.lt (fun i hi => by rw [fl_get _ _ _ hi, Nat.zero_add]; exact (HW5.out.word i hi).1)
    (fun x hx => by obtain ⟨k, _, rfl⟩ := fl_mem hx; have := turn_64 f t k Hf64.out; omega) ?_).mono ?_
  · rcases turn_last n W f t HW.out htn Hfl.out with h | h
    · exact .inl h
    · right
      rw [fl_get _ _ _ (by omega)]
      have : turnF f t (W - 1) / 2 ^ (n % 64) = 0 := Nat.div_eq_of_lt h
      have e : ((turnF f t (W - 1) : Int) / 2 ^ (n % 64)) = ((turnF f t (W - 1) / 2 ^ (n % 64) : Nat) : Int) := by simp
      rw [e, this]; rfl
  rintro e w6 ⟨rfl, hP6⟩
  have hR1 := HR5.out.keep (fun g hg1 hg2 => hP6.1.block g (by have := HS5.out; have := HSZ3.out; omega))
  have hR2 := hP6.r
  have hB6 : Below w.heap.size w w6 := hB5.trans (hP6.1.mono (by have := hB5.size; omega))
  have HR1 := Lib.hid hR1
  have HR2 := Lib.hid hR2
  have HB6 := Lib.hid hB6
  clear hP6 hR1 hR2 hB6 hB5
  have hareas : ((t : Int) / (8 * b)) = ((t / (8 * b) : Nat) : Int) := by simp
  have Hareas := Lib.hid hareas
  clear hareas
  go_wp2_with fail
  refine (area_ok t b _ (by omega) (by omega) hb.int).mono ?_
  rintro e w' ⟨rfl, rfl⟩
  rw [Hareas.out]
  obtain ⟨at', eat⟩ : ∃ a, a = t / (8 * b) := ⟨_, rfl⟩
  rw [← eat]
  have Heat := Lib.hid eat
  clear eat
  go_wp2_with fail
  go_loopw [22, 23] (fun i _ wr => ∃ j q : Nat, j ≤ A ∧ i = .int .i64 j ∧ wr = w6.drewN q) (fun i _ _ => A - (intOf i).toNat)
  case atStart => exact ⟨0, 0, Nat.zero_le _, rfl, rfl⟩
  case round =>
    obtain ⟨j, q, hj, rfl, rfl⟩ := hrel
    by_cases hlt : j < A
    · obtain ⟨c1, r1⟩ := HR1.out.reads (by omega) j hlt
      obtain ⟨c2, r2⟩ := HR2.out.reads (by omega) j hlt
      have R1 := Lib.hid r1
      have R2 := Lib.hid r2
      clear r1 r2
      have hrow := turn_row n b W f t j hb HW.out htn
      rw [← Heat.out] at hrow
      have hlen : (fl b (fun p => pkByte n (fl W fun k => (turnF f t k : Int)) (8 * (b * j + p)))).length ≤ maxLen := by rw [fl_length]; unfold maxLen; omega
      have hlen2 : (fl b (fun p => pkByte n (fl W fun k => (f k : Int)) (8 * (b * j + p)))).length ≤ maxLen := by rw [fl_length]; unfold maxLen; omega
      by_cases hja : j = at'
      · have hd : decide ((fl b (fun p => pkByte n (fl W fun k => (turnF f t k : Int)) (8 * (b * j + p)))) = fl b fun p => pkByte n (fl W fun k => (f k : Int)) (8 * (b * j + p))) = false := by
          rw [decide_eq_false_iff_not, hrow]; simp [hja]
        have hS := fun w' (h1 : Rd .u8 w' _ _) (h2 : Rd .u8 w' _ _) => sameB_ok (.slice (some ⟨w5.heap.size + 1 + j, 0, none⟩) b b) (.slice (some ⟨w1.heap.size + 1 + j, 0, none⟩) b b) _ _ w' h1 h2 hlen hlen2
        rw [hd] at hS
        have hT : ∀ k, Calls Try.prog 22 #[.slice (some ⟨w5.heap.size + 1 + j, 0, none⟩) b b, .slice (some ⟨w1.heap.size + 1 + j, 0, none⟩) b b] (w6.drewN k) (SameP (w6.drewN k) false) := fun k => hS (w6.drewN k) R2.out R1.out
        have HT := Lib.hid hT
        have hbq : ((j : Int) == at') = true := by simp [hja]
        have Hja := Lib.hid hja
        clear hT hS hd hrow hlen hlen2 hja
        go_wp2_with fail
        go_quiet ((go_at_call 22; exact same_quiet (HT.out _)))
        go_wp2
        go_roundw
        case rel => exact ⟨j + 1, _, by omega, by go_num, rfl⟩
        case measure => simp [intOf] <;> omega
      · have hd : decide ((fl b (fun p => pkByte n (fl W fun k => (turnF f t k : Int)) (8 * (b * j + p)))) = fl b fun p => pkByte n (fl W fun k => (f k : Int)) (8 * (b * j + p))) = true := by
          rw [decide_eq_true_iff, hrow]; exact hja
        have hS := fun w' (h1 : Rd .u8 w' _ _) (h2 : Rd .u8 w' _ _) => sameB_ok (.slice (some ⟨w5.heap.size + 1 + j, 0, none⟩) b b) (.slice (some ⟨w1.heap.size + 1 + j, 0, none⟩) b b) _ _ w' h1 h2 hlen hlen2
        rw [hd] at hS
        have hT : ∀ k, Calls Try.prog 22 #[.slice (some ⟨w5.heap.size + 1 + j, 0, none⟩) b b, .slice (some ⟨w1.heap.size + 1 + j, 0, none⟩) b b] (w6.drewN k) (SameP (w6.drewN k) true) := fun k => hS (w6.drewN k) R2.out R1.out
        have HT := Lib.hid hT
        have hbq : ((j : Int) == at') = false := by simp; omega
        have Hja := Lib.hid hja
        clear hT hS hd hrow hlen hlen2 hja
        go_wp2_with fail
        go_quiet ((go_at_call 22; exact same_quiet (HT.out _)))
        go_wp2
        go_roundw
        case rel => exact ⟨j + 1, _, by omega, by go_num, rfl⟩
        case measure => simp [intOf] <;> omega
    · obtain rfl : j = A := by omega
      go_wp2
      go_ret
      exact ⟨rfl, below_drewN HB6.out _⟩
theorem wf_u64 {x : Int} (h : (Lit.int .u64 x).wf = true) : 0 ≤ x ∧ x < 18446744073709551616 := by
  simp [Lit.wf, IntKind.min, IntKind.max, IntKind.bits, IntKind.signed] at h
  omega
theorem bits_law (n b turn : Int) (v : Value) (seed : List Int) (w : World) (hs : Rd .u64 w v seed) (hu : ∀ x ∈ seed, (Lit.int .u64 x).wf = true) :
    Calls Try.prog 7 #[.int .i64 n, v, .int .i64 b, .int .i64 turn] w (DoneTrue w) := by
  by_cases hb : okSize b
  · by_cases h1 : n < 1
    · exact bits_no n b turn v true w (fun w => lsized_yes b w hb) (by omega) (.inr (.inl h1))
    by_cases h2 : 65536 < n
    · exact bits_no n b turn v true w (fun w => lsized_yes b w hb) (by omega) (.inr (.inr h2))
    obtain ⟨n, rfl⟩ := Int.eq_ofNat_of_zero_le (show 0 ≤ n by omega)
    obtain ⟨b, rfl⟩ := Int.eq_ofNat_of_zero_le (show 0 ≤ b by unfold okSize at hb; omega)
    exact bits_yes n b turn v seed w (by omega) (by omega) (by have := okSz.of hb; simpa using this) hs (fun x hx => wf_u64 (hu x hx))
  · exact bits_no n b turn v false w (fun w => lsized_no b w hb) (fun h => hb h.2.2) (.inl rfl)
end Go.Proofs.Ytjcinelcocmpnaa
