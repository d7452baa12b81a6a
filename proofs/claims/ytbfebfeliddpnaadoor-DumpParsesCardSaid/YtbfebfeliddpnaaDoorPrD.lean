/- The reader's numbers: decimal. -/
import Derived.Test.YtbfebfeliddpnaaDoorPrC
import Derived.IntWalk
import Derived.Outline
namespace Go.Proofs.YtbfebfeliddpnaaDoor
open Go.RowKit
set_option linter.unusedVariables false
set_option linter.unusedSimpArgs false
theorem str_index (t : ByteArray) (i : Nat) (h : i < t.size) (w : World) : (Instr.index 9 (.string t) (.int .i64 (i : Nat))).run Tryd.prog w = .ok (.int .u8 (byteAt t i : Nat)) w := by
  rw [run_index_string (P := Tryd.prog) w 9 t .i64 (i : Int) Tryd.underlying9]
  have h1 : ¬ ((i : Int) < 0 ∨ (t.size : Int) ≤ (i : Int)) := by omega
  rw [byteAt_in t i h]
  simp [h, Sem.run]
def DecQ (w : World) (t : ByteArray) (e : Ending) (w' : World) : Prop :=
  OnlyP (fun _ => False) w w' ∧ ∃ (v : Nat) (ok : Bool), e = .returned (.tuple #[.int .u64 v, .bool ok]) ∧ (numOf t = if ok = true then some v else none) ∧ v < 18446744073709551616
theorem pow19 (k : Nat) (h : k ≤ 18) : (10 : Nat) ^ k ≤ 1000000000000000000 := by
  have := Nat.pow_le_pow_right (n := 10) (by omega) h
  have e : (10 : Nat) ^ 18 = 1000000000000000000 := by decide
  omega
set_option maxHeartbeats 4000000 in
set_option maxRecDepth 100000 in
theorem decimal_ok (w : World) (t : ByteArray) (hs : t.size ≤ 65536) :
    Calls Tryd.prog 73 #[.string t] w (DecQ w t) := by
  obtain ⟨Q, eQ⟩ : ∃ Q, Q = DecQ w t := ⟨_, rfl⟩
  rw [← eQ]
  have EQ := Lib.hid eQ
  have hbad : ∀ w', OnlyP (fun _ => False) w w' → numOf t = none → Q (.returned (.tuple #[.int .u64 0, .bool false])) w' := fun w' ho hn => by
    rw [EQ.out]; exact ⟨ho, 0, false, rfl, by rw [hn]; rfl, by omega⟩
  have HBAD := Lib.hid hbad
  clear eQ hbad
  by_cases h1 : t.size < 1
  · have HF := Lib.hid (HBAD.out w (OnlyP.refl _ _) (by unfold numOf; rw [if_neg (by omega)]))
    go_enter Tryd.func73, Tryd.ntmps73
    go_wp2_with fail
    first | exact HF.out | (go_ret2; exact HF.out)
  by_cases h2 : 19 < t.size
  · have HF := Lib.hid (HBAD.out w (OnlyP.refl _ _) (by unfold numOf; rw [if_neg (by omega)]))
    go_enter Tryd.func73, Tryd.ntmps73
    go_wp2_with fail
    first | exact HF.out | (go_ret2; exact HF.out)
  have hix : ∀ w : World, (Instr.index 9 (.string t) (.int .i64 0)).run Tryd.prog w = .ok (.int .u8 (byteAt t 0 : Nat)) w := by
    intro w
    exact str_index t 0 (by omega) w
  by_cases h3 : 1 < t.size ∧ byteAt t 0 = 48
  · have HF := Lib.hid (HBAD.out w (OnlyP.refl _ _) (by unfold numOf; rw [if_neg (fun h => h.2.2.1 h3)]))
    obtain ⟨h3, h4⟩ := h3
    rw [h4] at hix
    clear h4
    go_enter Tryd.func73, Tryd.ntmps73
    go_wp2_with fail
    first | exact HF.out | (go_ret2; exact HF.out)
  have hix2 : decide (1 < t.size) = true → ((byteAt t 0 : Int) == 48) = false := by
    intro h
    have h4 : byteAt t 0 ≠ 48 := fun h5 => h3 ⟨by simpa using h, h5⟩
    simp; omega
  have hnum : ∀ b, b = decide (decV t t.size ≤ 4611686018427387904) → digits t t.size = true → numOf t = if b = true then some (decV t t.size) else none := by
    rintro b rfl hd
    unfold numOf
    by_cases hv : decV t t.size ≤ 4611686018427387904
    · rw [if_pos ⟨by omega, by omega, h3, hd, hv⟩, decide_eq_true hv, if_pos rfl]
    · rw [if_neg (fun h => hv h.2.2.2.2), decide_eq_false hv]; rfl
  have hnon : ∀ k, k < t.size → digB (byteAt t k) = false → numOf t = none := by
    intro k hk hd
    unfold numOf
    rw [if_neg]
    rintro ⟨_, _, _, h, _⟩
    have : ∀ n, k < n → digits t n = false := by
      intro n
      induction n with
      | zero => intro h; omega
      | succ m ih =>
        intro h
        rw [digits]
        by_cases e : k = m
        · rw [← e, hd, Bool.and_false]
        · rw [ih (by omega), Bool.false_and]
    rw [this t.size hk] at h
    exact absurd h (by decide)
  have HNUM := Lib.hid hnum
  have HNON := Lib.hid hnon
  clear hnum hnon h3
  have main : ∀ (Z : Bool), True := fun _ => trivial
  obtain ⟨B, eB⟩ : ∃ B, B = w.heap.size := ⟨_, rfl⟩
  obtain ⟨z, ez⟩ : ∃ z, z = byteAt t 0 := ⟨_, rfl⟩
  rw [← ez] at hix hix2
  clear ez main
  by_cases hone : 1 < t.size
  all_goals
    have hgd := hix2
    first
    | (have h9 : decide (1 < t.size) = true := decide_eq_true hone
       have h8 := hix2 h9
       clear h9)
    | (have h8 : True := trivial)
    clear hgd hix2
    go_enter Tryd.func73, Tryd.ntmps73
    go_wp2_with fail
    rw [show w.heap.size = B from eB.symm]
    have hiter : (w.iter t 0).heap[B]? = some (.stringIter t 0) := by rw [eB]; exact World.iter_heap w t 0
    have ho0 : OnlyP (fun _ => False) w (w.iter t 0) := (OnlyP.refl _ _).alloc _
    have hBw : w.heap.size ≤ B := by omega
    have HIT := Lib.hid hiter
    have HO0 := Lib.hid ho0
    clear hiter ho0 eB hix h8
    go_loopw [4, 6] (fun v _ wr => ∃ k : Nat, v = .int .u64 (decV t k : Nat) ∧ wr.heap[B]? = some (.stringIter t k) ∧ k ≤ t.size ∧ digits t k = true ∧ OnlyP (fun _ => False) w wr) (fun _ _ wr => t.size - wr.iterPos B)
    case atStart => exact ⟨0, rfl, HIT.out, Nat.zero_le _, rfl, HO0.out⟩
    case round =>
      obtain ⟨k, rfl, hit, hk, hd, ho⟩ := hrel
      have hpos0 := iterPos_of hit
      by_cases hp : k < t.size
      · have hnx : ∀ ty, (Instr.next (.pointer (some ⟨B, 0, none⟩)) true ty).run Tryd.prog wr = _ := fun ty => Lib.run_next_any_at wr B t k ty hit hp
        obtain ⟨C, wd, hcw⟩ : ∃ C wd, Utf8.decode t k = (C, wd) := ⟨_, _, rfl⟩
        have hru := rune_at t k C wd hp hcw
        simp only [hcw] at hnx
        have hit2 := Lib.iterAt_heap wr B t k (k + wd) hit
        have ho2 := ho.iterAt hBw t (k + wd)
        obtain ⟨W1, hW1⟩ : ∃ W1, W1 = wr.iterAt B t (k + wd) := ⟨_, rfl⟩
        rw [← hW1] at hnx hit2 ho2
        have hp1 := iterPos_of hit2
        have htop := hru.top
        obtain ⟨V, eV⟩ : ∃ V, V = decV t k := ⟨_, rfl⟩
        have hV : V < 1000000000000000000 := by
          have h5 := decV_lt t k hd
          have h6 := pow19 k (by omega)
          omega
        rw [← eV]
        by_cases hdig : 48 ≤ C ∧ C ≤ 57
        · obtain ⟨ha, hb⟩ := hdig
          obtain ⟨g1, g2⟩ := hru.low (by omega)
          have hd2 : digits t (k + 1) = true := by
            rw [digits, hd, g1]; unfold digB; rw [decide_eq_true ha, decide_eq_true hb]; rfl
          have hv2 : (decV t (k + 1) : Int) = 10 * (V : Int) + ((C : Int) - 48) := by
            rw [decV, ← eV, g1]; omega
          have x1 : decide ((C : Int) < 48) = false := decide_eq_false (by omega)
          have x2 : decide ((57 : Int) < C) = false := decide_eq_false (by omega)
          have HV2 := Lib.hid hv2
          have HD2 := Lib.hid hd2
          have HIT2 := Lib.hid (show W1.heap[B]? = some (.stringIter t (k + 1)) by rw [g2] at hit2; exact hit2)
          have HO2 := Lib.hid ho2
          have HP0 := Lib.hid hpos0
          have HP1 := Lib.hid (show W1.iterPos B = k + 1 by rw [g2] at hp1; exact hp1)
          clear hW1 hit hd ho hru hit2 ho2 hpos0 hp1 hcw hv2 hd2 eV g1 g2 HIT HO0
          go_wp2_with fail
          go_roundw
          case rel => exact ⟨k + 1, by rw [HV2.out], HIT2.out, by omega, HD2.out, HO2.out⟩
          case measure => rw [HP0.out, HP1.out]; omega
        · have hd2 : digB (byteAt t k) = false := by
            unfold digB
            simp only [Bool.and_eq_false_iff, decide_eq_false_iff_not]
            by_cases hlo : C < 128
            · rw [(hru.low hlo).1]; omega
            · have := hru.high (by omega); omega
          have HF := Lib.hid (HBAD.out W1 ho2 (HNON.out k hp hd2))
          have gx : decide ((C : Int) < 48) = true ∨ (decide ((C : Int) < 48) = false ∧ decide ((57 : Int) < C) = true) := by
            simp only [decide_eq_true_eq, decide_eq_false_iff_not]; omega
          clear hW1 hit hd ho hru hit2 ho2 hpos0 hp1 hcw hd2 eV HIT HO0 hdig
          rcases gx with x1 | ⟨x1, x2⟩
          all_goals
            go_wp2_with fail
            first | exact HF.out | (go_ret2; exact HF.out)
      · have hnx : ∀ ty, (Instr.next (.pointer (some ⟨B, 0, none⟩)) true ty).run Tryd.prog wr = _ := fun ty => Lib.run_next_end_at wr B t k ty hit hp
        obtain rfl : k = t.size := by omega
        obtain ⟨V, eV⟩ : ∃ V, V = decV t t.size := ⟨_, rfl⟩
        have hV : V < 18446744073709551616 := by
          have h5 := decV_lt t t.size hd
          have h6 : (10 : Nat) ^ t.size ≤ 10 ^ 19 := Nat.pow_le_pow_right (by omega) (by omega)
          have h7 : (10 : Nat) ^ 19 = 10000000000000000000 := by decide
          omega
        have HF : Hid (∀ b, b = decide (V ≤ 4611686018427387904) → Q (.returned (.tuple #[.int .u64 V, .bool b])) wr) := Lib.hid (fun b hb => by
          rw [EQ.out]
          exact ⟨ho, V, b, rfl, by rw [eV]; exact HNUM.out b (by rw [hb, eV]) hd, hV⟩)
        rw [← eV]
        clear hit hd ho hpos0 hp HIT HO0 eV
        have hdd : decide ((V : Int) ≤ 4611686018427387904) = decide (V ≤ 4611686018427387904) := by
          by_cases h : V ≤ 4611686018427387904
          · rw [decide_eq_true h, decide_eq_true (by omega)]
          · rw [decide_eq_false h, decide_eq_false (by omega)]
        have HDD := Lib.hid hdd
        clear hdd
        go_wp2_with fail
        first | exact HF.out _ HDD.out | (go_ret2; exact HF.out _ HDD.out)
end Go.Proofs.YtbfebfeliddpnaaDoor
