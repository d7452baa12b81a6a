/- The reference's small functions: wordy, number, ident. -/
import Derived.Test.YtbfebfeliddpnaaDoorPrM
import Derived.Outline
namespace Go.Proofs.YtbfebfeliddpnaaDoor
open Go.RowKit
set_option linter.unusedVariables false
set_option linter.unusedSimpArgs false
set_option maxHeartbeats 1000000 in
theorem wordy_ok (c : Nat) (hc : c < 256) (w : World) : Calls Tryd.prog 38 #[.int .u8 (c : Nat)] w fun e w' => e = .returned (.bool (wordyB c)) ∧ w = w' := by
  obtain ⟨W, eW⟩ : ∃ W, W = wordyB c := ⟨_, rfl⟩
  rw [← eW]
  by_cases hlow : 97 ≤ c ∧ c ≤ 122
  · obtain ⟨a, b⟩ := hlow
    have hW : W = true := by rw [eW]; unfold wordyB lowB digB; simp only [Bool.or_eq_true, Bool.and_eq_true, decide_eq_true_eq]; omega
    have x1 : decide ((97 : Int) ≤ c) = true := decide_eq_true (by omega)
    have x2 : decide ((c : Int) ≤ 122) = true := decide_eq_true (by omega)
    clear eW
    subst hW
    go_enter Tryd.func38, Tryd.ntmps38
    go_wp2_with fail
    first | exact ⟨rfl, rfl⟩ | (go_ret; exact ⟨rfl, rfl⟩)
  by_cases hdig : 48 ≤ c ∧ c ≤ 57
  · obtain ⟨a, b⟩ := hdig
    have hW : W = true := by rw [eW]; unfold wordyB lowB digB; simp only [Bool.or_eq_true, Bool.and_eq_true, decide_eq_true_eq]; omega
    have x1 : decide ((97 : Int) ≤ c) = false := decide_eq_false (by omega)
    have x2 : decide ((48 : Int) ≤ c) = true := decide_eq_true (by omega)
    have x3 : decide ((c : Int) ≤ 57) = true := decide_eq_true (by omega)
    clear eW hlow
    subst hW
    go_enter Tryd.func38, Tryd.ntmps38
    go_wp2_with fail
    first | exact ⟨rfl, rfl⟩ | (go_ret; exact ⟨rfl, rfl⟩)
  have gx : (decide ((97 : Int) ≤ c) = false ∧ decide ((48 : Int) ≤ c) = false) ∨ (decide ((97 : Int) ≤ c) = false ∧ decide ((48 : Int) ≤ c) = true ∧ decide ((c : Int) ≤ 57) = false) ∨ (decide ((97 : Int) ≤ c) = true ∧ decide ((c : Int) ≤ 122) = false ∧ decide ((48 : Int) ≤ c) = true ∧ decide ((c : Int) ≤ 57) = false) := by
    simp only [decide_eq_true_eq, decide_eq_false_iff_not]; omega
  have hW : W = decide (c = 45) := by
    rw [eW]; unfold wordyB lowB digB
    by_cases h : c = 45
    · subst h; rfl
    · have a1 : (decide (97 ≤ c) && decide (c ≤ 122)) = false := by simp only [Bool.and_eq_false_iff, decide_eq_false_iff_not]; omega
      have a2 : (decide (48 ≤ c) && decide (c ≤ 57)) = false := by simp only [Bool.and_eq_false_iff, decide_eq_false_iff_not]; omega
      rw [a1, a2]; rfl
  have x5 : ((c : Int) == 45) = W := by
    rw [hW]
    by_cases h : c = 45
    · subst h; rfl
    · rw [decide_eq_false h]; simp; omega
  have HW := Lib.hid hW
  clear eW hW hlow hdig
  rcases gx with ⟨x1, x2⟩ | ⟨x1, x2, x3⟩ | ⟨x1, x2, x3, x4⟩
  all_goals
    go_enter Tryd.func38, Tryd.ntmps38
    go_wp2_with fail
    first | exact ⟨rfl, rfl⟩ | (go_ret; exact ⟨rfl, rfl⟩)
def RNumQ (w : World) (t : ByteArray) (e : Ending) (w' : World) : Prop :=
  w = w' ∧ ∃ (v : Nat) (ok : Bool), e = .returned (.tuple #[.int .u64 v, .bool ok]) ∧ (numOf t = if ok = true then some v else none) ∧ v < 18446744073709551616
set_option maxHeartbeats 4000000 in
set_option maxRecDepth 100000 in
theorem rnumber_ok (w : World) (t : ByteArray) (hs : t.size ≤ 65536) :
    Calls Tryd.prog 67 #[.string t] w (RNumQ w t) := by
  obtain ⟨Q, eQ⟩ : ∃ Q, Q = RNumQ w t := ⟨_, rfl⟩
  rw [← eQ]
  have EQ := Lib.hid eQ
  have hbad : numOf t = none → Q (.returned (.tuple #[.int .u64 0, .bool false])) w := fun hn => by
    rw [EQ.out]; exact ⟨rfl, 0, false, rfl, by rw [hn]; rfl, by omega⟩
  have HBAD := Lib.hid hbad
  clear eQ hbad
  by_cases h1 : t.size < 1
  · have HF := Lib.hid (HBAD.out (by unfold numOf; rw [if_neg (by omega)]))
    go_enter Tryd.func67, Tryd.ntmps67
    go_wp2_with fail
    first | exact HF.out | (go_ret2; exact HF.out)
  by_cases h2 : 19 < t.size
  · have HF := Lib.hid (HBAD.out (by unfold numOf; rw [if_neg (by omega)]))
    go_enter Tryd.func67, Tryd.ntmps67
    go_wp2_with fail
    first | exact HF.out | (go_ret2; exact HF.out)
  have hix : ∀ w : World, (Instr.index 9 (.string t) (.int .i64 0)).run Tryd.prog w = .ok (.int .u8 (byteAt t 0 : Nat)) w := fun w => str_index t 0 (by omega) w
  have hnum : ∀ b, b = decide (decV t t.size ≤ 4611686018427387904) → ¬ (1 < t.size ∧ byteAt t 0 = 48) → digits t t.size = true → numOf t = if b = true then some (decV t t.size) else none := by
    rintro b rfl h3 hd
    unfold numOf
    by_cases hv : decV t t.size ≤ 4611686018427387904
    · rw [if_pos ⟨by omega, by omega, h3, hd, hv⟩, decide_eq_true hv, if_pos rfl]
    · rw [if_neg (fun h => hv h.2.2.2.2), decide_eq_false hv]; rfl
  have hnon : ∀ k, k < t.size → digB (byteAt t k) = false → numOf t = none := by
    intro k hk hd
    unfold numOf
    rw [if_neg]
    rintro ⟨_, _, _, h, _⟩
    have : ∀ n, k < n → digits t n = false := by
      intro n
      induction n with
      | zero => intro h; omega
      | succ m ih =>
        intro h
        rw [digits]
        by_cases e : k = m
        · rw [← e, hd, Bool.and_false]
        · rw [ih (by omega), Bool.false_and]
    rw [this t.size hk] at h
    exact absurd h (by decide)
  have HNUM := Lib.hid hnum
  have HNON := Lib.hid hnon
  clear hnum hnon
  obtain ⟨z, ez⟩ : ∃ z, z = byteAt t 0 := ⟨_, rfl⟩
  have EZ := Lib.hid ez
  rw [← ez] at hix
  clear ez
  have hgx : (z = 48 ∧ decide ((1 : Int) < t.size) = true) ∨ (Hid (¬ (1 < t.size ∧ byteAt t 0 = 48)) ∧ ((((z : Int) == 48) = false) ∨ (z = 48 ∧ decide ((1 : Int) < t.size) = false))) := by
    by_cases hz : z = 48
    · by_cases h : 1 < t.size
      · exact .inl ⟨hz, decide_eq_true (by omega)⟩
      · exact .inr ⟨Lib.hid (fun x => h x.1), .inr ⟨hz, decide_eq_false (by omega)⟩⟩
    · exact .inr ⟨Lib.hid (fun x => hz (by rw [EZ.out]; exact x.2)), .inl (by simp; omega)⟩
  rcases hgx with ⟨hz, d1⟩ | ⟨HNZ, hgx⟩
  · have HF := Lib.hid (HBAD.out (by unfold numOf; rw [if_neg (fun h => h.2.2.1 ⟨by have := of_decide_eq_true d1; omega, by rw [← EZ.out]; exact hz⟩)]))
    subst hz
    go_enter Tryd.func67, Tryd.ntmps67
    go_wp2_with fail
    first | exact HF.out | (go_ret2; exact HF.out)
  rcases hgx with d2 | ⟨rfl, d1⟩
  all_goals
    go_enter Tryd.func67, Tryd.ntmps67
    go_wp2_with fail
    clear hix
    go_loop [4, 5] (fun v i => ∃ k : Nat, v = .int .u64 (decV t k : Nat) ∧ i = .int .i64 (k : Nat) ∧ k ≤ t.size ∧ digits t k = true) (fun _ i => t.size - (intOf i).toNat)
    case atStart => exact ⟨0, rfl, rfl, Nat.zero_le _, rfl⟩
    case round =>
      obtain ⟨k, rfl, rfl, hk, hd⟩ := hrel
      obtain ⟨V, eV⟩ : ∃ V, V = decV t k := ⟨_, rfl⟩
      rw [← eV]
      by_cases hp : k < t.size
      · have hV : V < 1000000000000000000 := by
          have h5 := decV_lt t k hd
          have h6 := pow19 k (by omega)
          omega
        have hixk := fun w => str_index t k hp w
        obtain ⟨C, eC⟩ : ∃ C, C = byteAt t k := ⟨_, rfl⟩
        have hC : C < 256 := by rw [eC]; exact byteAt_lt t k
        rw [← eC] at hixk
        have d5 : decide (k < t.size) = true := decide_eq_true hp
        by_cases hdig : 48 ≤ C ∧ C ≤ 57
        · obtain ⟨ha, hb⟩ := hdig
          have HD2 := Lib.hid (show digits t (k + 1) = true by rw [digits, hd, ← eC]; unfold digB; rw [decide_eq_true ha, decide_eq_true hb]; rfl)
          have HV2 := Lib.hid (show (decV t (k + 1) : Int) = 10 * (V : Int) + ((C : Int) - 48) by rw [decV, ← eV, ← eC]; omega)
          have x1 : decide ((C : Int) < 48) = false := decide_eq_false (by omega)
          have x2 : decide ((57 : Int) < C) = false := decide_eq_false (by omega)
          clear eV eC hd
          go_wp2_with fail
          go_round
          case rel => exact ⟨k + 1, by rw [HV2.out], by go_num, by omega, HD2.out⟩
          case measure => simp [intOf]; omega
        · have HF := Lib.hid (HBAD.out (HNON.out k hp (by rw [← eC]; unfold digB; simp only [Bool.and_eq_false_iff, decide_eq_false_iff_not]; omega)))
          have gx : decide ((C : Int) < 48) = true ∨ (decide ((C : Int) < 48) = false ∧ decide ((57 : Int) < C) = true) := by
            simp only [decide_eq_true_eq, decide_eq_false_iff_not]; omega
          clear eV eC hd hdig
          rcases gx with x1 | ⟨x1, x2⟩
          all_goals
            go_wp2_with fail
            first | exact HF.out | (go_ret2; exact HF.out)
      · obtain rfl : k = t.size := by omega
        have hV : V < 18446744073709551616 := by
          have h5 := decV_lt t t.size hd
          have h6 : (10 : Nat) ^ t.size ≤ 10 ^ 19 := Nat.pow_le_pow_right (by omega) (by omega)
          have h7 : (10 : Nat) ^ 19 = 10000000000000000000 := by decide
          omega
        have HF : Hid (∀ b, b = decide (V ≤ 4611686018427387904) → Q (.returned (.tuple #[.int .u64 V, .bool b])) w) := Lib.hid (fun b hb => by
          rw [EQ.out]
          exact ⟨rfl, V, b, rfl, by rw [eV]; exact HNUM.out b (by rw [hb, eV]) HNZ.out hd, hV⟩)
        have HDD := Lib.hid (show decide ((V : Int) ≤ 4611686018427387904) = decide (V ≤ 4611686018427387904) from by
          by_cases h : V ≤ 4611686018427387904
          · rw [decide_eq_true h, decide_eq_true (by omega)]
          · rw [decide_eq_false h, decide_eq_false (by omega)])
        clear hd hp eV
        go_wp2_with fail
        first | exact HF.out _ HDD.out | (go_ret2; exact HF.out _ HDD.out)
end Go.Proofs.YtbfebfeliddpnaaDoor
