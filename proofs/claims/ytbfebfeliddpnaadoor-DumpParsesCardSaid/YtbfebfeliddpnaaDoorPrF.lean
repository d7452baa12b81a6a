/- The reader's identifiers. -/
import Derived.Test.YtbfebfeliddpnaaDoorPrE
import Derived.Outline
namespace Go.Proofs.YtbfebfeliddpnaaDoor
open Go.RowKit
set_option linter.unusedVariables false
set_option linter.unusedSimpArgs false
theorem hexs_no (t : ByteArray) (k : Nat) (h : hexB (byteAt t k) = false) : ∀ n, k < n → hexs t n = false
  | 0, hk => by omega
  | n + 1, hk => by
    rw [hexs]
    by_cases e : k = n
    · rw [← e, h, Bool.and_false]
    · rw [hexs_no t k h n (by omega), Bool.false_and]
def pushH (V d : Nat) : Nat := (16 * V % 18446744073709551616) ||| d
theorem pushH_lt (V d : Nat) (hd : d < 16) : pushH V d < 18446744073709551616 := by
  unfold pushH
  exact Nat.or_lt_two_pow (n := 64) (by omega) (by omega)
theorem pushH_hex (t : ByteArray) (k d : Nat) (hk : k < 16) (hd : d < 16) (hh : hexs t k = true) (he : hexD (byteAt t k) = d) : pushH (hexV t k) d = hexV t (k + 1) := by
  have h1 := hexV_lt t k hh
  have h2 : (16 : Nat) ^ k ≤ 16 ^ 15 := Nat.pow_le_pow_right (by omega) (by omega)
  have h3 : (16 : Nat) ^ 15 = 1152921504606846976 := by decide
  unfold pushH
  rw [Nat.mod_eq_of_lt (by omega), show 16 * hexV t k = 2 ^ 4 * hexV t k by omega, ← Nat.two_pow_add_eq_or_of_lt (by omega), hexV, he]
theorem or_pushH (V d : Nat) (hV : V < 18446744073709551616) (hd : d < 16) : bits .or .u64 (IntKind.u64.wrap ((V : Int) * 16)) (d : Int) = ((pushH V d : Nat) : Int) := by
  have e : IntKind.u64.wrap ((V : Int) * 16) = ((16 * V % 18446744073709551616 : Nat) : Int) := by
    rw [IntKind.wrap_u64]; omega
  rw [e, bits_or_u64_nat _ _ (by omega) (by omega)]
  rfl
set_option maxHeartbeats 4000000 in
set_option maxRecDepth 100000 in
theorem identifier_ok (w : World) (r : Nat) (s : ByteArray) (i : Nat) (h : RdB w r s i) (hi : i ≤ s.size) (hs : s.size ≤ 65536) :
    Calls Tryd.prog 44 #[.pointer (some ⟨r, 0, none⟩)] w (ReadQ w r s (readF s idOf (toks s i)) fun v => .int .u64 (v : Nat)) := by
  obtain ⟨Q, eQ⟩ : ∃ Q, Q = ReadQ w r s (readF s idOf (toks s i)) (fun v => .int .u64 (v : Nat)) := ⟨_, rfl⟩
  rw [← eQ]
  have EQ := Lib.hid eQ
  have HG := Lib.hid (got_ok idOf (by unfold idOf; rw [if_neg (fun h => absurd h.1 (by decide))]) w r s i h hi hs)
  clear eQ h
  go_enter Tryd.func44, Tryd.ntmps44
  go_wp2_with fail
  refine HG.out.mono ?_
  rintro e w1 ⟨ho, ⟨x, a, en, rfl, h1, h2, h3, hr, hv⟩ | ⟨p, rfl, hv⟩⟩
  · have hbad : idOf x = none → ∀ w2, OnlyP (fun _ => False) w1 w2 → Q (faultE a) w2 := by
      intro hb w2 ho2
      rw [EQ.out]
      refine ⟨ho.none ho2, ?_⟩
      rw [hv, hb]
    have hgood : ∀ v, idOf x = some v → ∀ w2, OnlyP (fun _ => False) w1 w2 → Q (.returned (.int .u64 (v : Nat))) w2 := by
      intro v hc w2 ho2
      rw [EQ.out]
      refine ⟨ho.none ho2, ?_⟩
      rw [hv, hc]
      exact ⟨rfl, en, h1, hr.only ho2, rfl⟩
    have HBAD := Lib.hid hbad
    have HGOOD := Lib.hid hgood
    obtain ⟨B, eB⟩ : ∃ B, B = w1.heap.size := ⟨_, rfl⟩
    have hiter : (w1.iter x 0).heap[B]? = some (.stringIter x 0) := by rw [eB]; exact World.iter_heap w1 x 0
    have ho0 : OnlyP (fun _ => False) w1 (w1.iter x 0) := (OnlyP.refl _ _).alloc _
    have hBw : w1.heap.size ≤ B := by omega
    have hxs : x.size ≤ 65536 := by omega
    have EB := Lib.hid eB
    have HIT := Lib.hid hiter
    have HO0 := Lib.hid ho0
    clear HG ho hr hv hbad hgood hiter ho0 eB
    go_wp2_with fail
    rw [show w1.heap.size = B from EB.out.symm]
    go_loopw [5, 7] (fun v _ wr => ∃ (k V : Nat), v = .int .u64 (V : Nat) ∧ wr.heap[B]? = some (.stringIter x k) ∧ k ≤ x.size ∧ hexs x k = true ∧ V < 18446744073709551616 ∧ (k ≤ 16 → V = hexV x k) ∧ OnlyP (fun _ => False) w1 wr) (fun _ _ wr => x.size - wr.iterPos B)
    case atStart => exact ⟨0, 0, rfl, HIT.out, Nat.zero_le _, rfl, by omega, fun _ => rfl, HO0.out⟩
    case round =>
      obtain ⟨k, V, rfl, hit, hk, hd, hV, hVk, ho⟩ := hrel
      have hpos0 := iterPos_of hit
      clear HIT HO0
      by_cases hp : k < x.size
      · have hnx : ∀ ty, (Instr.next (.pointer (some ⟨B, 0, none⟩)) true ty).run Tryd.prog wr = _ := fun ty => Lib.run_next_any_at wr B x k ty hit hp
        obtain ⟨C, wd, hcw⟩ : ∃ C wd, Utf8.decode x k = (C, wd) := ⟨_, _, rfl⟩
        have hru := rune_at x k C wd hp hcw
        simp only [hcw] at hnx
        have hit2 := Lib.iterAt_heap wr B x k (k + wd) hit
        have ho2 := ho.iterAt hBw x (k + wd)
        obtain ⟨W1, hW1⟩ : ∃ W1, W1 = wr.iterAt B x (k + wd) := ⟨_, rfl⟩
        rw [← hW1] at hnx hit2 ho2
        have hp1 := iterPos_of hit2
        have htop := hru.top
        have hstep : ∀ d, hexB C = true → hexD C = d → d < 16 → (∃ (k' V' : Nat), Value.int .u64 ((pushH V d : Nat) : Int) = .int .u64 (V' : Nat) ∧ W1.heap[B]? = some (.stringIter x k') ∧ k' ≤ x.size ∧ hexs x k' = true ∧ V' < 18446744073709551616 ∧ (k' ≤ 16 → V' = hexV x k') ∧ OnlyP (fun _ => False) w1 W1) ∧ W1.iterPos B = k + 1 := by
          intro d hb hD hd16
          have hlo : C < 128 := by
            unfold hexB digB at hb
            simp only [Bool.or_eq_true, Bool.and_eq_true, decide_eq_true_eq] at hb
            omega
          obtain ⟨g1, g2⟩ := hru.low hlo
          rw [g2] at hit2 hp1
          refine ⟨⟨k + 1, pushH V d, rfl, hit2, by omega, ?_, pushH_lt V d hd16, fun hk16 => ?_, ho2⟩, hp1⟩
          · rw [hexs, hd, g1, hb]; rfl
          · rw [hVk (by omega)]; exact pushH_hex x k d (by omega) hd16 hd (by rw [g1]; exact hD)
        have hno : hexB C = false → idOf x = none := by
          intro hb
          have hb2 : hexB (byteAt x k) = false := by
            by_cases hlo : C < 128
            · rw [(hru.low hlo).1]; exact hb
            · have := hru.high (by omega)
              unfold hexB digB
              simp only [Bool.or_eq_false_iff, Bool.and_eq_false_iff, decide_eq_false_iff_not]
              omega
          unfold idOf
          rw [if_neg]
          rintro ⟨e1, e2⟩
          rw [hexs_no x k hb2 16 (by omega)] at e2
          exact absurd e2 (by decide)
        have HSTEP := Lib.hid hstep
        have HNO := Lib.hid hno
        have HO2 := Lib.hid ho2
        have HP0 := Lib.hid hpos0
        clear hW1 hit hd ho hru hit2 ho2 hpos0 hp1 hcw hVk hstep hno
        by_cases hdig : 48 ≤ C ∧ C ≤ 57
        · obtain ⟨ha, hb⟩ := hdig
          obtain ⟨d, ed⟩ : ∃ d, d = C - 48 := ⟨_, rfl⟩
          have hst := HSTEP.out d (by unfold hexB digB; simp only [Bool.or_eq_true, Bool.and_eq_true, decide_eq_true_eq]; omega) (by unfold hexD digB; rw [decide_eq_true ha, decide_eq_true hb]; simp [ed]) (by omega)
          have HST := Lib.hid hst
          have hCd : (C : Int) - 48 = (d : Int) := by omega
          have hor := or_pushH V d hV (by omega)
          have x1 : decide ((48 : Int) ≤ C) = true := decide_eq_true (by omega)
          have x2 : decide ((C : Int) ≤ 57) = true := decide_eq_true (by omega)
          have hd16 : d < 16 := by omega
          clear hst ed
          go_wp2_with fail
          go_roundw
          case rel => exact HST.out.1
          case measure => have := HST.out.2; rw [HP0.out, this]; omega
        by_cases hlow : 97 ≤ C ∧ C ≤ 102
        · obtain ⟨ha, hb⟩ := hlow
          obtain ⟨d, ed⟩ : ∃ d, d = C - 87 := ⟨_, rfl⟩
          have hst := HSTEP.out d (by unfold hexB digB; simp only [Bool.or_eq_true, Bool.and_eq_true, decide_eq_true_eq]; omega) (by unfold hexD digB; rw [decide_eq_false (p := C ≤ 57) (by omega)]; simp [ed]) (by omega)
          have HST := Lib.hid hst
          have hCd : (C : Int) - 97 + 10 = (d : Int) := by omega
          have hor := or_pushH V d hV (by omega)
          have x1 : decide ((48 : Int) ≤ C) = true := decide_eq_true (by omega)
          have x2 : decide ((C : Int) ≤ 57) = false := decide_eq_false (by omega)
          have x3 : decide ((97 : Int) ≤ C) = true := decide_eq_true (by omega)
          have x4 : decide ((C : Int) ≤ 102) = true := decide_eq_true (by omega)
          have hd16 : d < 16 := by omega
          clear hst ed hdig
          go_wp2_with fail
          go_roundw
          case rel => exact HST.out.1
          case measure => have := HST.out.2; rw [HP0.out, this]; omega
        · have HF := Lib.hid (HBAD.out (HNO.out (by unfold hexB digB; simp only [Bool.or_eq_false_iff, Bool.and_eq_false_iff, decide_eq_false_iff_not]; omega)) W1 HO2.out)
          have gx : (decide ((48 : Int) ≤ C) = false ∧ decide ((97 : Int) ≤ C) = false) ∨ (decide ((48 : Int) ≤ C) = true ∧ decide ((C : Int) ≤ 57) = false ∧ decide ((97 : Int) ≤ C) = false) ∨ (decide ((48 : Int) ≤ C) = true ∧ decide ((C : Int) ≤ 57) = false ∧ decide ((97 : Int) ≤ C) = true ∧ decide ((C : Int) ≤ 102) = false) := by
            simp only [decide_eq_true_eq, decide_eq_false_iff_not]; omega
          clear hdig hlow
          rcases gx with ⟨x1, x2⟩ | ⟨x1, x2, x3⟩ | ⟨x1, x2, x3, x4⟩
          all_goals
            go_wp2_with fail
            first | exact HF.out | exact ⟨rfl, HF.out⟩
      · have hnx : ∀ ty, (Instr.next (.pointer (some ⟨B, 0, none⟩)) true ty).run Tryd.prog wr = _ := fun ty => Lib.run_next_end_at wr B x k ty hit hp
        have hke : k = x.size := by omega
        by_cases h16 : x.size = 16
        · have HF := Lib.hid (HGOOD.out V (by unfold idOf; rw [if_pos ⟨h16, by rw [hke, h16] at hd; exact hd⟩, hVk (by omega), hke, h16]) wr ho)
          have hg : ((x.size : Int) != 16) = false := by simp; omega
          clear hit hd ho hpos0 hp hVk hke h16
          go_wp2_with fail
          first | exact HF.out | (go_ret; exact HF.out)
        · have HF := Lib.hid (HBAD.out (by unfold idOf; rw [if_neg (fun h => h16 h.1)]) wr ho)
          have hg : ((x.size : Int) != 16) = true := by simp; omega
          clear hit hd ho hpos0 hp hVk hke h16
          go_wp2_with fail
          first | exact HF.out | exact ⟨rfl, HF.out⟩
  · have HF := Lib.hid (show Q (faultE p) w1 by
      rw [EQ.out]
      refine ⟨ho, ?_⟩
      rw [hv])
    clear ho hv
    unfold faultE at HF ⊢
    go_wp2_with fail
    first | exact HF.out | exact ⟨rfl, HF.out⟩
end Go.Proofs.YtbfebfeliddpnaaDoor
