/- The reference's small functions: ident, run. -/
import Derived.Test.YtbfebfeliddpnaaDoorRnA
import Derived.Outline
namespace Go.Proofs.YtbfebfeliddpnaaDoor
open Go.RowKit
set_option linter.unusedVariables false
set_option linter.unusedSimpArgs false
def RIdQ (w : World) (t : ByteArray) (e : Ending) (w' : World) : Prop :=
  w = w' ∧ ∃ (v : Nat) (ok : Bool), e = .returned (.tuple #[.int .u64 v, .bool ok]) ∧ (idOf t = if ok = true then some v else none)
set_option maxHeartbeats 4000000 in
set_option maxRecDepth 100000 in
theorem rident_ok (w : World) (t : ByteArray) (hs : t.size ≤ 65536) :
    Calls Tryd.prog 102 #[.string t] w (RIdQ w t) := by
  obtain ⟨Q, eQ⟩ : ∃ Q, Q = RIdQ w t := ⟨_, rfl⟩
  rw [← eQ]
  have EQ := Lib.hid eQ
  have hbad : idOf t = none → Q (.returned (.tuple #[.int .u64 0, .bool false])) w := fun hn => by
    rw [EQ.out]; exact ⟨rfl, 0, false, rfl, by rw [hn]; rfl⟩
  have HBAD := Lib.hid hbad
  clear eQ hbad
  by_cases h16 : t.size = 16
  · have hg : ((t.size : Int) != 16) = false := by simp; omega
    have hno : ∀ k, k < 16 → hexB (byteAt t k) = false → idOf t = none := by
      intro k hk hb
      unfold idOf
      rw [if_neg]
      rintro ⟨_, e2⟩
      rw [hexs_no t k hb 16 hk] at e2
      exact absurd e2 (by decide)
    have HNO := Lib.hid hno
    have H16 := Lib.hid h16
    clear hno h16
    go_enter Tryd.func102, Tryd.ntmps102
    go_wp2_with fail
    go_loop [4, 5, 6] (fun v i _ => ∃ k : Nat, v = .int .u64 (hexV t k : Nat) ∧ i = .int .i64 (k : Nat) ∧ k ≤ 16 ∧ hexs t k = true) (fun _ i _ => 16 - (intOf i).toNat)
    case atStart => exact ⟨0, rfl, rfl, Nat.zero_le _, rfl⟩
    case round =>
      obtain ⟨k, rfl, rfl, hk, hd⟩ := hrel
      obtain ⟨V, eV⟩ : ∃ V, V = hexV t k := ⟨_, rfl⟩
      rw [← eV]
      by_cases hp : k < 16
      · have hV : V < 1152921504606846976 := by
          have h1 := hexV_lt t k hd
          have h2 : (16 : Nat) ^ k ≤ 16 ^ 15 := Nat.pow_le_pow_right (by omega) (by omega)
          have h3 : (16 : Nat) ^ 15 = 1152921504606846976 := by decide
          omega
        have hixk := fun w => str_index t k (by rw [H16.out]; exact hp) w
        obtain ⟨C, eC⟩ : ∃ C, C = byteAt t k := ⟨_, rfl⟩
        have hC : C < 256 := by rw [eC]; exact byteAt_lt t k
        rw [← eC] at hixk
        by_cases hdig : 48 ≤ C ∧ C ≤ 57
        · obtain ⟨ha, hb⟩ := hdig
          have HD2 := Lib.hid (show hexs t (k + 1) = true by rw [hexs, hd, ← eC]; unfold hexB digB; rw [decide_eq_true ha, decide_eq_true hb]; rfl)
          have HV2 := Lib.hid (show (hexV t (k + 1) : Int) = 16 * (V : Int) + ((C : Int) - 48) by rw [hexV, ← eV, ← eC]; unfold hexD digB; rw [decide_eq_true ha, decide_eq_true hb]; simp; omega)
          have x1 : decide ((48 : Int) ≤ C) = true := decide_eq_true (by omega)
          have x2 : decide ((C : Int) ≤ 57) = true := decide_eq_true (by omega)
          clear eV eC hd
          go_wp2_with fail
          go_round
          case rel => exact ⟨k + 1, by rw [HV2.out], by go_num, by omega, HD2.out⟩
          case measure => simp [intOf]; omega
        by_cases hlow : 97 ≤ C ∧ C ≤ 102
        · obtain ⟨ha, hb⟩ := hlow
          have HD2 := Lib.hid (show hexs t (k + 1) = true by rw [hexs, hd, ← eC]; unfold hexB digB; rw [decide_eq_true ha, decide_eq_true hb]; simp)
          have HV2 := Lib.hid (show (hexV t (k + 1) : Int) = 16 * (V : Int) + ((C : Int) - 97 + 10) by rw [hexV, ← eV, ← eC]; unfold hexD digB; rw [decide_eq_false (p := C ≤ 57) (by omega)]; simp; omega)
          have gx : decide ((48 : Int) ≤ C) = true := decide_eq_true (by omega)
          have x2 : decide ((C : Int) ≤ 57) = false := decide_eq_false (by omega)
          have x3 : decide ((97 : Int) ≤ C) = true := decide_eq_true (by omega)
          have x4 : decide ((C : Int) ≤ 102) = true := decide_eq_true (by omega)
          clear eV eC hd hdig
          go_wp2_with fail
          go_round
          case rel => exact ⟨k + 1, by rw [HV2.out], by go_num, by omega, HD2.out⟩
          case measure => simp [intOf]; omega
        · have HF := Lib.hid (HBAD.out (HNO.out k hp (by rw [← eC]; unfold hexB digB; simp only [Bool.or_eq_false_iff, Bool.and_eq_false_iff, decide_eq_false_iff_not]; omega)))
          have gx : (decide ((48 : Int) ≤ C) = false ∧ decide ((97 : Int) ≤ C) = false) ∨ (decide ((48 : Int) ≤ C) = true ∧ decide ((C : Int) ≤ 57) = false ∧ decide ((97 : Int) ≤ C) = false) ∨ (decide ((48 : Int) ≤ C) = true ∧ decide ((C : Int) ≤ 57) = false ∧ decide ((97 : Int) ≤ C) = true ∧ decide ((C : Int) ≤ 102) = false) := by
            simp only [decide_eq_true_eq, decide_eq_false_iff_not]; omega
          clear eV eC hd hdig hlow
          rcases gx with ⟨x1, x2⟩ | ⟨x1, x2, x3⟩ | ⟨x1, x2, x3, x4⟩
          all_goals
            go_wp2_with fail
            first | exact HF.out | (go_ret2; exact HF.out)
      · obtain rfl : k = 16 := by omega
        have HF := Lib.hid (show Q (.returned (.tuple #[.int .u64 (V : Nat), .bool true])) w by
          rw [EQ.out]
          exact ⟨rfl, V, true, rfl, by unfold idOf; rw [if_pos ⟨H16.out, hd⟩, eV]; rfl⟩)
        clear hd hp eV
        go_wp2_with fail
        first | exact HF.out | (go_ret2; exact HF.out)
  · have hg : ((t.size : Int) != 16) = true := by simp; omega
    have HF := Lib.hid (HBAD.out (by unfold idOf; rw [if_neg (fun h => h16 h.1)]))
    clear h16
    go_enter Tryd.func102, Tryd.ntmps102
    go_wp2_with fail
    first | exact HF.out | (go_ret2; exact HF.out)
theorem dash_hit (t : ByteArray) (i : Nat) (h : i < t.size) (hb : byteAt t i = 45) : dash t i = some i := by rw [dash, if_pos h, if_pos hb]
theorem dash_miss (t : ByteArray) (i : Nat) (h : i < t.size) (hb : byteAt t i ≠ 45) : dash t i = dash t (i + 1) := by rw [dash, if_pos h, if_neg hb]
theorem dash_end (t : ByteArray) : dash t t.size = none := by rw [dash, if_neg (by omega)]
def RRunQ (w : World) (t : ByteArray) (e : Ending) (w' : World) : Prop :=
  (∃ m, w' = w.drewN m) ∧ ∃ (a b : Int) (ok : Bool), e = .returned (.tuple #[.int .i64 a, .int .i64 b, .bool ok]) ∧ (ok = false → runOf t = none) ∧ (ok = true → ∃ p q : Nat, a = p ∧ b = q ∧ runOf t = some (p, q) ∧ p ≤ 4611686018427387904 ∧ q ≤ 4611686018427387904)
set_option maxHeartbeats 8000000 in
set_option maxRecDepth 100000 in
theorem rrun_ok (w : World) (t : ByteArray) (hs : t.size ≤ 65536) :
    Calls Tryd.prog 103 #[.string t] w (RRunQ w t) := by
  obtain ⟨Q, eQ⟩ : ∃ Q, Q = RRunQ w t := ⟨_, rfl⟩
  rw [← eQ]
  have EQ := Lib.hid eQ
  clear eQ
  go_enter Tryd.func103, Tryd.ntmps103
  go_wp2_with fail
  go_loop [5, 6] (fun kv iv => ∃ (i : Nat) (K : Int), kv = .int .i64 K ∧ iv = .int .i64 (i : Nat) ∧ i ≤ t.size ∧ ((K = -1 ∧ dash t i = dash t 0) ∨ (∃ p : Nat, K = p ∧ p ≤ 65536 ∧ dash t 0 = some p))) (fun _ iv => t.size - (intOf iv).toNat)
  case atStart => exact ⟨0, -1, rfl, rfl, Nat.zero_le _, .inl ⟨rfl, rfl⟩⟩
  case round =>
    obtain ⟨i, K, rfl, rfl, hi, hK⟩ := hrel
    by_cases hp : i < t.size
    · have hixk := fun w => str_index t i hp w
      obtain ⟨C, eC⟩ : ∃ C, C = byteAt t i := ⟨_, rfl⟩
      have hC : C < 256 := by rw [eC]; exact byteAt_lt t i
      rw [← eC] at hixk
      have d5 : decide (i < t.size) = true := decide_eq_true hp
      by_cases h45 : C = 45
      · rcases hK with ⟨rfl, hd⟩ | ⟨p, rfl, hpl, hd⟩
        · have HR := Lib.hid (show dash t 0 = some i by rw [← hd]; exact dash_hit t i hp (by rw [← eC]; exact h45))
          subst h45
          clear eC hd
          go_wp2_with fail
          go_round
          case rel => exact ⟨i + 1, (i : Int), rfl, by go_num, by omega, .inr ⟨i, rfl, by omega, HR.out⟩⟩
          case measure => simp [intOf]; omega
        · have HR := Lib.hid hd
          have d6 : decide ((p : Int) < 0) = false := decide_eq_false (by omega)
          subst h45
          clear eC hd
          go_wp2_with fail
          go_round
          case rel => exact ⟨i + 1, (p : Int), rfl, by go_num, by omega, .inr ⟨p, rfl, hpl, HR.out⟩⟩
          case measure => simp [intOf]; omega
      · have g45 : ((C : Int) == 45) = false := by simp; omega
        have HR := Lib.hid (show (K = -1 ∧ dash t (i + 1) = dash t 0) ∨ (∃ p : Nat, K = p ∧ p ≤ 65536 ∧ dash t 0 = some p) by
          rcases hK with ⟨e, hd⟩ | h
          · exact .inl ⟨e, by rw [← hd]; exact (dash_miss t i hp (by rw [← eC]; exact h45)).symm⟩
          · exact .inr h)
        clear eC hK h45
        go_wp2_with fail
        go_round
        case rel => exact ⟨i + 1, K, rfl, by go_num, by omega, HR.out⟩
        case measure => simp [intOf]; omega
    · obtain rfl : i = t.size := by omega
      have d5 : decide (t.size < t.size) = false := decide_eq_false (by omega)
      rcases hK with ⟨rfl, hd⟩ | ⟨p, rfl, hpl, hd⟩
      · rw [dash_end] at hd
        have hrun : runOf t = (match numOf t with | some a => some (a, a) | none => none) := by unfold runOf; rw [← hd]; cases numOf t <;> rfl
        have HRUN := Lib.hid hrun
        have HC := Lib.hid (rnumber_ok w t hs)
        clear hd hrun hp
        go_wp2_with fail
        refine HC.out.mono ?_
        rintro e w1 ⟨rfl, v, ok, rfl, hn, hv⟩
        have hrun := HRUN.out
        rw [hn] at hrun
        have HRUN2 := Lib.hid hrun
        have HN := Lib.hid hn
        clear HC HRUN hrun hn
        cases ok
        · have HF : Hid (∀ a b : Int, Q (.returned (.tuple #[.int .i64 a, .int .i64 b, .bool false])) w) := Lib.hid (fun a b => by
            rw [EQ.out]
            exact ⟨⟨0, rfl⟩, a, b, false, rfl, fun _ => HRUN2.out, fun h => absurd h (by decide)⟩)
          go_wp2_with fail
          first | exact HF.out _ _ | (go_ret3; exact HF.out _ _)
        · have hv62 := num62 HN.out rfl
          have HF := Lib.hid (show Q (.returned (.tuple #[.int .i64 (v : Nat), .int .i64 (v : Nat), .bool true])) w by
            rw [EQ.out]
            exact ⟨⟨0, rfl⟩, v, v, true, rfl, fun h => absurd h (by decide), fun _ => ⟨v, v, rfl, rfl, HRUN2.out, hv62, hv62⟩⟩)
          go_wp2_with fail
          first | exact HF.out | (go_ret3; exact HF.out)
      · have hpx := dash_le t t.size 0 p (by omega) hd
        obtain ⟨_, hpt, _⟩ := hpx
        have d6 : decide ((p : Int) < 0) = false := decide_eq_false (by omega)
        obtain ⟨y, ey⟩ : ∃ y, y = t.extract 0 p := ⟨_, rfl⟩
        obtain ⟨z, ez⟩ : ∃ z, z = t.extract (p + 1) t.size := ⟨_, rfl⟩
        have hys : y.size ≤ 65536 := by rw [ey, ByteArray.size_extract]; omega
        have hzs : z.size ≤ 65536 := by rw [ez, ByteArray.size_extract]; omega
        have hrun : runOf t = (match numOf y, numOf z with | some a, some b => if a < b then some (a, b) else none | _, _ => none) := by
          unfold runOf
          rw [hd]
          simp only
          rw [← ey, ← ez]
          cases numOf y <;> cases numOf z <;> rfl
        have HRUN := Lib.hid hrun
        have HC := Lib.hid (rnumber_ok w y hys)
        have EY := Lib.hid ey
        have EZ := Lib.hid ez
        clear hrun hd ey ez hp
        go_wp2_with fail
        rw [← EY.out]
        refine HC.out.mono ?_
        rintro e w1 ⟨rfl, v, ok, rfl, hn, hv⟩
        have HN := Lib.hid hn
        have HC2 := Lib.hid (rnumber_ok w z hzs)
        clear HC hn
        go_wp2_with fail
        rw [← EZ.out]
        refine HC2.out.mono ?_
        rintro e w1 ⟨rfl, v2, ok2, rfl, hn2, hv2⟩
        have hrun := HRUN.out
        rw [HN.out, hn2] at hrun
        have HRUN2 := Lib.hid hrun
        have HN2 := Lib.hid hn2
        clear HC2 HRUN hrun hn2
        cases ok
        · have HF : Hid (∀ a b : Int, Q (.returned (.tuple #[.int .i64 a, .int .i64 b, .bool false])) w) := Lib.hid (fun a b => by
            rw [EQ.out]
            exact ⟨⟨0, rfl⟩, a, b, false, rfl, fun _ => by have h9 := HRUN2.out; simpa using h9, fun h => absurd h (by decide)⟩)
          clear HRUN2 HN HN2
          go_wp2_with fail
          first | exact HF.out _ _ | (go_ret3; exact HF.out _ _)
        cases ok2
        · have HF : Hid (∀ a b : Int, Q (.returned (.tuple #[.int .i64 a, .int .i64 b, .bool false])) w) := Lib.hid (fun a b => by
            rw [EQ.out]
            exact ⟨⟨0, rfl⟩, a, b, false, rfl, fun _ => by have h9 := HRUN2.out; simpa using h9, fun h => absurd h (by decide)⟩)
          clear HRUN2 HN HN2
          go_wp2_with fail
          first | exact HF.out _ _ | (go_ret3; exact HF.out _ _)
        have hv62 := num62 HN.out rfl
        have hv622 := num62 HN2.out rfl
        by_cases hlt : v < v2
        · have HF := Lib.hid (show Q (.returned (.tuple #[.int .i64 (v : Nat), .int .i64 (v2 : Nat), .bool true])) w by
            rw [EQ.out]
            exact ⟨⟨0, rfl⟩, v, v2, true, rfl, fun h => absurd h (by decide), fun _ => ⟨v, v2, rfl, rfl, by have h9 := HRUN2.out; simpa [hlt] using h9, hv62, hv622⟩⟩)
          have d7 : decide (v < v2) = true := decide_eq_true hlt
          clear HRUN2 HN HN2 hlt
          go_wp2_with fail
          first | exact HF.out | (go_ret3; exact HF.out)
        · have HF : Hid (∀ a b : Int, Q (.returned (.tuple #[.int .i64 a, .int .i64 b, .bool false])) w) := Lib.hid (fun a b => by
            rw [EQ.out]
            exact ⟨⟨0, rfl⟩, a, b, false, rfl, fun _ => by have h9 := HRUN2.out; simpa [hlt] using h9, fun h => absurd h (by decide)⟩)
          have d7 : decide (v < v2) = false := decide_eq_false hlt
          clear HRUN2 HN HN2 hlt
          go_wp2_with fail
          first | exact HF.out _ _ | (go_ret3; exact HF.out _ _)
end Go.Proofs.YtbfebfeliddpnaaDoor
