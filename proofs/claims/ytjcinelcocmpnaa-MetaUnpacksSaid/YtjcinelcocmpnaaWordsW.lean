/- The law's own words: of n bits, from any numbers. -/
import Derived.Test.YtjcinelcocmpnaaPkUn
namespace Go.Proofs.Ytjcinelcocmpnaa
open Go.RowKit
set_option linter.unusedVariables false
set_option linter.unusedSimpArgs false
def wordF (seed : List Int) (k j : Nat) : Nat := if j < k then (seed.getD j 0).toNat else 0
def maskF (n : Nat) (f : Nat → Nat) (j : Nat) : Nat := if n % 64 ≠ 0 ∧ j = (n + 63) / 64 - 1 then f j % 2 ^ (n % 64) else f j
theorem mask_val (x r : Nat) (hx : x < 2 ^ 64) (hr0 : 0 < r) (hr : r < 64) : bits .and .u64 (x : Int) (IntKind.u64.wrap (IntKind.u64.wrap (2 ^ r) - 1)) = ((x % 2 ^ r : Nat) : Int) := by
  have h1 : (2 : Nat) ^ r < 2 ^ 64 := Nat.pow_lt_pow_right (by decide) hr
  have h0 : 1 ≤ (2 : Nat) ^ r := Nat.one_le_two_pow
  have h2 : IntKind.u64.wrap (2 ^ r) = ((2 ^ r : Nat) : Int) := by
    rw [wraps64 (2 ^ r) (by have := Int.pow_pos (n := 2) (m := r) (by decide); omega) (by exact_mod_cast h1)]
    simp
  have h3 : IntKind.u64.wrap (IntKind.u64.wrap (2 ^ r) - 1) = 2 ^ r - 1 := by
    rw [h2, wraps64 _ (by omega) (by omega)]
    simp
  rw [h3]
  have h4 := bits_mask .u64 64 (by decide) wraps64 r (by omega) (x : Int) (by omega) (by exact_mod_cast hx)
  rw [h4]; simp
theorem mask_put {B W n L x : Nat} {seed : List Int} {w wr : World} (h : UnA B W w wr (wordF seed L)) (hW : (n + 63) / 64 = W) (hn : ¬ n % 64 = 0) (ex : wordF seed L (W - 1) = x) :
    UnA B W w (wr.setCell ⟨B, W - 1, none⟩ (.int .u64 ((x % 2 ^ (n % 64) : Nat) : Int))).drew (maskF n (wordF seed L)) := by
  refine (h.put _ _).drew.congr (fun j hj => ?_)
  unfold maskF
  rw [hW]
  by_cases e : j = W - 1
  · subst e; rw [if_pos rfl, if_pos ⟨hn, rfl⟩, ex]
  · rw [if_neg e, if_neg (by omega)]
set_option maxHeartbeats 1000000 in
set_option maxRecDepth 100000 in
theorem words_ok (n W : Nat) (v : Value) (seed : List Int) (w : World) (h1 : 1 ≤ n) (h2 : n ≤ 65536) (hW : (n + 63) / 64 = W) (hs : Rd .u64 w v seed) (hu : ∀ x ∈ seed, 0 ≤ x ∧ x < 18446744073709551616) :
    Calls Try.prog 21 #[.int .i64 n, v] w fun e w' => e = .returned (.slice (some ⟨w.heap.size, 0, none⟩) W W) ∧ UnA w.heap.size W w w' (maskF n (wordF seed seed.length)) := by
  have hW1 : ((n : Int) + 63) / 64 = W := by omega
  have hW2 : 1 ≤ W := by omega
  have hW3 : W ≤ 1024 := by omega
  have hmk := fun w => run_make_row' (P := Try.prog) 34 39 (.int .u64 0) 8 Try.underlying34 un_info39 rfl .i64 .i64 W (by omega) (by omega) w
  obtain ⟨a, c, rfl⟩ := hs.slice
  obtain ⟨L, eL⟩ : ∃ L, L = seed.length := ⟨_, rfl⟩
  have hcell : ∀ i, i < L → ∃ b off, a = some ⟨b, off, none⟩ ∧ b < w.heap.size ∧ w.cell? ⟨b, off + i, none⟩ = some (.int .u64 (seed.getD i 0)) := by
    intro i hi
    rcases hs with ⟨h0, _⟩ | ⟨b, off, c', e, g1, g2, g3, g4⟩
    · rw [eL, h0] at hi; simp at hi
    · simp only [Value.slice.injEq] at e
      exact ⟨b, off, e.1, g3, g4 i (by omega)⟩
  have hv : ∀ i, i < L → 0 ≤ seed.getD i 0 ∧ seed.getD i 0 < 18446744073709551616 := fun i hi => hu _ (by rw [List.getD_eq_getElem?_getD, List.getElem?_eq_getElem (by rw [← eL]; exact hi)]; simp)
  rw [← eL]
  have HC := Lib.hid hcell
  have HV := Lib.hid hv
  have HW := Lib.hid hW
  clear hcell hv hs hu hW eL
  go_enter Try.func21, Try.ntmps21
  go_wp2_with fail
  go_loopw [6] (fun i wr => ∃ k : Nat, k ≤ W ∧ k ≤ L ∧ i = .int .i64 k ∧ UnA w.heap.size W w wr (wordF seed k)) (fun i _ => W - (intOf i).toNat)
  case atStart => exact ⟨0, Nat.zero_le _, Nat.zero_le _, rfl, (UnA.start W w).congr (fun k _ => by simp [wordF])⟩
  case round =>
    obtain ⟨k, hk, hkL, rfl, hP⟩ := hrel
    have HP := Lib.hid hP
    clear hP
    by_cases hlt : k < W ∧ k < L
    · obtain ⟨hl1, hl2⟩ := hlt
      obtain ⟨b, off, rfl, hb, hx⟩ := HC.out k hl2
      have hv := HV.out k hl2
      have hx' := (HP.out.1.cell hb).trans hx
      obtain ⟨hw1, hw2⟩ := HP.out.word k hl1
      obtain ⟨x, ex⟩ : ∃ x : Nat, seed.getD k 0 = (x : Int) := Int.eq_ofNat_of_zero_le hv.1
      rw [ex] at hx hx'
      have Hex := Lib.hid ex
      clear ex hx hv
      go_wp2
      go_roundw
      case rel =>
        refine ⟨k + 1, by omega, by omega, by go_num, (HP.out.put k x).congr (fun j hj => ?_)⟩
        unfold wordF
        by_cases e : j = k
        · subst e; rw [if_pos rfl, if_pos (by omega), Hex.out]; simp
        · rw [if_neg e]
          by_cases e2 : j < k
          · rw [if_pos e2, if_pos (by omega)]
          · rw [if_neg e2, if_neg (by omega)]
      case measure => simp [intOf] <;> omega
    · have hout : (k < W ∧ L ≤ k) ∨ k = W := by omega
      have HF : UnA w.heap.size W w wr (wordF seed L) := HP.out.congr (fun j hj => by
        unfold wordF
        by_cases h : k = W
        · rw [if_pos (by omega), if_pos (by omega)]
        · rw [show k = L by omega])
      have HFH := Lib.hid HF
      clear HP
      have hlast : ∀ x : Nat, wordF seed L (W - 1) = x → x < 2 ^ 64 := by
        intro x hx
        rw [← hx]; unfold wordF
        split
        · next e => have := HV.out _ e; omega
        · decide
      by_cases hm : n % 64 = 0
      · have hm' : ((n : Int) % 64 != 0) = false := by simp; omega
        have hfin : UnA w.heap.size W w wr (maskF n (wordF seed L)) := HFH.out.congr (fun j hj => by unfold maskF; rw [if_neg (by omega)])
        have Hfin := Lib.hid hfin
        have Hl := Lib.hid hlast
        clear hfin HF hm hlast
        rcases hout with ⟨ho1, ho2⟩ | rfl
        all_goals
          go_wp2
          go_ret
          exact ⟨rfl, Hfin.out⟩
      · have hm' : ((n : Int) % 64 != 0) = true := by simp; omega
        have hw := HFH.out.word (W - 1) (by omega)
        obtain ⟨x, ex⟩ : ∃ x, wordF seed L (W - 1) = x := ⟨_, rfl⟩
        rw [ex] at hw
        obtain ⟨hw1, hw2⟩ := hw
        have hx := hlast x ex
        have hmv := mask_val x (n % 64) hx (by omega) (by omega)
        have Hmv := Lib.hid hmv
        have Hex := Lib.hid ex
        have Hx := Lib.hid hx
        clear hmv ex HF hlast hx
        rcases hout with ⟨ho1, ho2⟩ | rfl
        all_goals
          go_wp2_with fail
          go_region
          go_wp2
          go_ret
          refine ⟨rfl, ?_⟩
          rw [Hmv.out]
          exact mask_put HFH.out HW.out hm Hex.out
end Go.Proofs.Ytjcinelcocmpnaa
