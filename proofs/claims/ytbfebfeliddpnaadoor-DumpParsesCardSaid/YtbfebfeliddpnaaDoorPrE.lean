/- The reader's numbers: number, size. -/
import Derived.Test.YtbfebfeliddpnaaDoorPrD
import Derived.Laws.Bits64b
import Derived.Outline
namespace Go.Proofs.YtbfebfeliddpnaaDoor
open Go.RowKit
set_option linter.unusedVariables false
set_option linter.unusedSimpArgs false
theorem num_semi : numOf bSemi = none := by
  unfold numOf
  rw [if_neg]
  rintro ⟨_, _, _, h, _⟩
  exact absurd h (by decide)
theorem RdB.only {w w1 : World} {r : Nat} {s : ByteArray} {i : Nat} (h : RdB w r s i) (ho : OnlyP (fun _ => False) w w1) : RdB w1 r s i := (ho.block r (Blk.lt h) (fun h => h)).trans h
theorem OnlyP.none {O : Nat → Prop} {w w1 w2 : World} (h : OnlyP O w w1) (h2 : OnlyP (fun _ => False) w1 w2) : OnlyP O w w2 := h.trans h2 (fun k hk => hk.elim)
set_option maxHeartbeats 2000000 in
set_option maxRecDepth 100000 in
theorem number_ok (lo hi : Nat) (w : World) (r : Nat) (s : ByteArray) (i : Nat) (h : RdB w r s i) (hii : i ≤ s.size) (hs : s.size ≤ 65536) :
    Calls Tryd.prog 42 #[.pointer (some ⟨r, 0, none⟩), .int .u64 (lo : Nat), .int .u64 (hi : Nat)] w (ReadQ w r s (readF s (inF lo hi) (toks s i)) fun v => .int .u64 (v : Nat)) := by
  obtain ⟨Q, eQ⟩ : ∃ Q, Q = ReadQ w r s (readF s (inF lo hi) (toks s i)) (fun v => .int .u64 (v : Nat)) := ⟨_, rfl⟩
  rw [← eQ]
  have EQ := Lib.hid eQ
  have HG := Lib.hid (got_ok (inF lo hi) (by unfold inF; rw [num_semi]) w r s i h hii hs)
  clear eQ h
  go_enter Tryd.func42, Tryd.ntmps42
  go_wp2_with fail
  refine HG.out.mono ?_
  rintro e w1 ⟨ho, ⟨x, a, en, rfl, h1, h2, h3, hr, hv⟩ | ⟨p, rfl, hv⟩⟩
  · have hdc := decimal_ok w1 x (by omega)
    have HDC := Lib.hid hdc
    have HO := Lib.hid ho
    have HR := Lib.hid hr
    have HV := Lib.hid hv
    clear hdc ho hr hv
    go_wp2_with fail
    refine HDC.out.mono ?_
    rintro e w2 ⟨ho2, v, ok, rfl, hn, hv64⟩
    have hO2 := HO.out.none ho2
    have hR2 := HR.out.only ho2
    have HO2 := Lib.hid hO2
    have HR2 := Lib.hid hR2
    have hbad : numOf x = none ∨ (∃ n, numOf x = some n ∧ ¬ (lo ≤ n ∧ n ≤ hi)) → Q (faultE a) w2 := by
      intro hb
      rw [EQ.out]
      refine ⟨hO2, ?_⟩
      rw [HV.out]
      unfold inF
      rcases hb with hb | ⟨n, hb, hb2⟩
      · rw [hb]
      · rw [hb]; simp only; rw [if_neg hb2]
    have hgood : ok = true → (lo ≤ v ∧ v ≤ hi) → Q (.returned (.int .u64 (v : Nat))) w2 := by
      intro hk hc
      rw [EQ.out]
      refine ⟨hO2, ?_⟩
      rw [HV.out]
      unfold inF
      rw [hn, if_pos hk]
      simp only
      rw [if_pos hc]
      exact ⟨rfl, en, h1, hR2, rfl⟩
    have HBAD := Lib.hid hbad
    have HGOOD := Lib.hid hgood
    have HN := Lib.hid hn
    clear HDC HO HR HV ho2 hO2 hR2 hbad hgood hn
    cases ok
    · have HF := Lib.hid (HBAD.out (.inl HN.out))
      clear HN
      go_wp2_with fail
      first | exact HF.out | exact ⟨rfl, HF.out⟩
    · have hnv : numOf x = some v := HN.out
      have HNV := Lib.hid hnv
      clear hnv HN
      by_cases c1 : v < lo
      · have HF := Lib.hid (HBAD.out (.inr ⟨v, HNV.out, by omega⟩))
        have d1 : decide (v < lo) = true := decide_eq_true c1
        clear c1
        go_wp2_with fail
        first | exact HF.out | exact ⟨rfl, HF.out⟩
      by_cases c2 : hi < v
      · have HF := Lib.hid (HBAD.out (.inr ⟨v, HNV.out, by omega⟩))
        have d1 : decide (v < lo) = false := decide_eq_false c1
        have d2 : decide (hi < v) = true := decide_eq_true c2
        clear c1 c2
        go_wp2_with fail
        first | exact HF.out | exact ⟨rfl, HF.out⟩
      · have HF := Lib.hid (HGOOD.out rfl ⟨by omega, by omega⟩)
        have d1 : decide (v < lo) = false := decide_eq_false c1
        have d2 : decide (hi < v) = false := decide_eq_false c2
        clear c1 c2
        go_wp2_with fail
        first | exact HF.out | (go_ret; exact HF.out)
  · have HF := Lib.hid (show Q (faultE p) w1 by
      rw [EQ.out]
      refine ⟨ho, ?_⟩
      rw [hv])
    clear ho hv
    unfold faultE at HF ⊢
    go_wp2_with fail
    first | exact HF.out | exact ⟨rfl, HF.out⟩
theorem and_pow (v : Nat) (h1 : 128 ≤ v) (h2 : v ≤ 1024) (h : ¬ (v = 128 ∨ v = 256 ∨ v = 512 ∨ v = 1024)) : v &&& (v - 1) ≠ 0 := by
  have : ∀ v : Fin 1025, 128 ≤ v.val → ¬ (v.val = 128 ∨ v.val = 256 ∨ v.val = 512 ∨ v.val = 1024) → v.val &&& (v.val - 1) ≠ 0 := by decide +kernel
  exact this ⟨v, by omega⟩ h1 h
set_option maxHeartbeats 2000000 in
set_option maxRecDepth 100000 in
theorem size_ok (w : World) (r : Nat) (s : ByteArray) (i : Nat) (h : RdB w r s i) (hii : i ≤ s.size) (hs : s.size ≤ 65536) :
    Calls Tryd.prog 43 #[.pointer (some ⟨r, 0, none⟩)] w (ReadQ w r s (readF s (sizeF) (toks s i)) fun v => .int .i64 (v : Nat)) := by
  obtain ⟨Q, eQ⟩ : ∃ Q, Q = ReadQ w r s (readF s (sizeF) (toks s i)) (fun v => .int .i64 (v : Nat)) := ⟨_, rfl⟩
  rw [← eQ]
  have EQ := Lib.hid eQ
  have HG := Lib.hid (got_ok (sizeF) (by unfold sizeF; rw [num_semi]) w r s i h hii hs)
  clear eQ h
  go_enter Tryd.func43, Tryd.ntmps43
  go_wp2_with fail
  refine HG.out.mono ?_
  rintro e w1 ⟨ho, ⟨x, a, en, rfl, h1, h2, h3, hr, hv⟩ | ⟨p, rfl, hv⟩⟩
  · have hdc := decimal_ok w1 x (by omega)
    have HDC := Lib.hid hdc
    have HO := Lib.hid ho
    have HR := Lib.hid hr
    have HV := Lib.hid hv
    clear hdc ho hr hv
    go_wp2_with fail
    refine HDC.out.mono ?_
    rintro e w2 ⟨ho2, v, ok, rfl, hn, hv64⟩
    have hO2 := HO.out.none ho2
    have hR2 := HR.out.only ho2
    have HO2 := Lib.hid hO2
    have HR2 := Lib.hid hR2
    have hbad : numOf x = none ∨ (∃ n, numOf x = some n ∧ ¬ (okSz n = true)) → Q (faultE a) w2 := by
      intro hb
      rw [EQ.out]
      refine ⟨hO2, ?_⟩
      rw [HV.out]
      unfold sizeF
      rcases hb with hb | ⟨n, hb, hb2⟩
      · rw [hb]
      · rw [hb]; simp only; rw [if_neg hb2]
    have hgood : ok = true → (okSz v = true) → Q (.returned (.int .i64 (v : Nat))) w2 := by
      intro hk hc
      rw [EQ.out]
      refine ⟨hO2, ?_⟩
      rw [HV.out]
      unfold sizeF
      rw [hn, if_pos hk]
      simp only
      rw [if_pos hc]
      exact ⟨rfl, en, h1, hR2, rfl⟩
    have HBAD := Lib.hid hbad
    have HGOOD := Lib.hid hgood
    have HN := Lib.hid hn
    clear HDC HO HR HV ho2 hO2 hR2 hbad hgood hn
    cases ok
    · have HF := Lib.hid (HBAD.out (.inl HN.out))
      clear HN
      go_wp2_with fail
      first | exact HF.out | exact ⟨rfl, HF.out⟩
    · have hnv : numOf x = some v := HN.out
      have HNV := Lib.hid hnv
      clear hnv HN
      have hn62 : v ≤ 4611686018427387904 := by
        have h5 := HNV.out
        unfold numOf at h5
        split at h5
        · rename_i h6; injection h5 with h5; omega
        · exact absurd h5 (by simp)
      by_cases c0 : okSz v = true
      · have HF := Lib.hid (HGOOD.out rfl c0)
        have c1 : v = 128 ∨ v = 256 ∨ v = 512 ∨ v = 1024 := by
          unfold okSz at c0
          simp only [Bool.or_eq_true, decide_eq_true_eq] at c0
          omega
        clear c0 HNV HGOOD HBAD
        rcases c1 with rfl | rfl | rfl | rfl
        all_goals
          go_wp2_with fail
          first | exact HF.out | (go_ret; exact HF.out)
      · have HF := Lib.hid (HBAD.out (.inr ⟨v, HNV.out, c0⟩))
        have c00 : ¬ (v = 128 ∨ v = 256 ∨ v = 512 ∨ v = 1024) := by
          intro h; apply c0
          unfold okSz
          simp only [Bool.or_eq_true, decide_eq_true_eq]
          omega
        by_cases c1 : v < 128
        · have d1 : decide ((v : Int) < 128) = true := decide_eq_true (by omega)
          clear c1 c0 c00
          go_wp2_with fail
          first | exact HF.out | exact ⟨rfl, HF.out⟩
        have d1 : decide ((v : Int) < 128) = false := decide_eq_false (by omega)
        by_cases c2 : 1024 < v
        · have d2 : decide ((1024 : Int) < v) = true := decide_eq_true (by omega)
          clear c1 c2 c0 c00
          go_wp2_with fail
          first | exact HF.out | exact ⟨rfl, HF.out⟩
        · have d2 : decide ((1024 : Int) < v) = false := decide_eq_false (by omega)
          have c4 : 128 ≤ v := by omega
          have c5 : v ≤ 1024 := by omega
          have hand : (bits .and .u64 (v : Int) ((v : Int) - 1) != 0) = true := by
            have h5 := and_pow v c4 c5 c00
            rw [show (v : Int) - 1 = ((v - 1 : Nat) : Int) by omega, bits_and_u64_nat _ _ (by omega) (by omega)]
            simpa using h5
          clear c1 c2 c0 c00
          go_wp2_with fail
          first | exact HF.out | exact ⟨rfl, HF.out⟩
  · have HF := Lib.hid (show Q (faultE p) w1 by
      rw [EQ.out]
      refine ⟨ho, ?_⟩
      rw [hv])
    clear ho hv
    unfold faultE at HF ⊢
    go_wp2_with fail
    first | exact HF.out | exact ⟨rfl, HF.out⟩
end Go.Proofs.YtbfebfeliddpnaaDoor
