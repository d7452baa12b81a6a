/- meta.Pack: what it answers where it may. -/
import Derived.Test.YtjcinelcocmpnaaPackP
namespace Go.Proofs.Ytjcinelcocmpnaa
open Go.RowKit
set_option linter.unusedVariables false
set_option linter.unusedSimpArgs false
set_option maxHeartbeats 1000000 in
set_option maxRecDepth 100000 in
theorem pack_256 (n : Nat) (A W c off : Nat) (bw : Nat) (ws : List Int) (w : World) (h1 : 1 ≤ n) (h2 : n ≤ 65536) (hA : (n + 8 * 256 - 1) / (8 * 256) = A) (hW : (n + 63) / 64 = W) (hlen : ws.length = W) (hbw : bw < w.heap.size)
    (hws : ∀ i, i < W → w.cell? ⟨bw, off + i, none⟩ = some (.int .u64 (ws.getD i 0))) (hu : ∀ x ∈ ws, 0 ≤ x ∧ x < 18446744073709551616) (hlast : n % 64 = 0) :
    Calls Try.prog 20 #[.int .i64 n, .slice (some ⟨bw, off, none⟩) W c, .int .i64 256] w fun e w' => e = .returned (.tuple #[.slice (some ⟨w.heap.size, 0, none⟩) A A, .int .i64 0]) ∧ PkB w.heap.size A 256 w w' (fun i p => pkByte n ws (8 * (256 * i + p))) := by
  have hb : okSize 256 := by simp [okSize]
  have hA1 : 1 ≤ A := by omega
  have hA2 : A ≤ 64 := by omega
  have hA3 : ((n : Int) + 8 * 256 - 1) / (8 * 256) = (A : Int) := by omega
  have hW1 : ((n : Int) + 63) / 64 = W := by omega
  have hW2 : 1 ≤ W := by omega
  have hmk := fun w => run_make_row' (P := Try.prog) 49 5 (.int .u8 0) 1 Try.underlying49 pk_info5 rfl .i64 .i64 256 (by omega) (by omega) w
  simp only [Int.cast_ofNat_Int] at hmk
  have hmk2 := fun w => run_make_row' (P := Try.prog) 31 49 (.slice none 0 0) 24 Try.underlying31 pk_info49 rfl .i64 .i64 A (by omega) (by omega) w
  have HA := Lib.hid hA
  have HA3 := Lib.hid hA3
  have HW := Lib.hid hW
  have Hlen := Lib.hid hlen
  have Hws := Lib.hid hws
  have Hu := Lib.hid hu
  clear hA hA3 hW hlen hws hu
  have hq : ((W : Int) != W) = false := by simp
  have hm' : ((n : Int) % 64 != 0) = false := by simp; omega
  go_enter Try.func20, Try.ntmps20
  go_wp2_with fail
  refine (bitmapped_ok _ _ _ (by omega) (by omega) hb).mono ?_
  rintro e w' ⟨rfl, rfl⟩
  go_wp2_with fail
  refine (areas_ok _ _ _ (by omega) (by omega) hb).mono ?_
  rintro e w' ⟨rfl, rfl⟩
  rw [HA3.out]
  go_wp2_with fail
  go_loopw [49, 10] (fun i _ wr => ∃ k : Nat, k ≤ A ∧ i = .int .i64 k ∧ PkA w.heap.size A 256 k w wr) (fun i _ _ => A - (intOf i).toNat)
  case atStart => exact ⟨0, Nat.zero_le _, rfl, PkA.start _ _ _⟩
  case round =>
    obtain ⟨k, hk, rfl, hP⟩ := hrel
    have HP := Lib.hid hP
    have hc := (show wr.heap.size = w.heap.size + 1 + k from hP.2.1)
    by_cases hlt : k < A
    · have hcell : wr.cell? ⟨w.heap.size, k, none⟩ = some (.slice none 0 0) := by
        obtain ⟨_, _, ⟨cur, h3, h4, h5⟩, _⟩ := hP
        rw [h3.cell, h5 k hlt, if_neg (by omega)]
      have hfree : wr.frozen? ⟨w.heap.size, k, none⟩ = false := by
        obtain ⟨_, _, ⟨cur, h3, h4, h5⟩, _⟩ := hP
        exact h3.free k
      have hlt2 : w.heap.size < wr.heap.size := by omega
      clear hc hP
      go_wp2
      go_roundw
      case rel => exact ⟨k + 1, by omega, by go_num, HP.out.step hlt rfl⟩
      case measure => simp [intOf] <;> omega
    · obtain rfl : A = k := by omega
      clear hc hP
      have HB := Lib.hid (HP.out.done n ws)
      clear HP
      go_wp2_with fail
      go_loopw [60, 11, 12, 13, 14, 65] (fun i _ _ _ _ _ wr => ∃ k : Nat, k ≤ W ∧ i = .int .i64 k ∧ PkB w.heap.size A 256 w wr (stg n ws 256 (64 * k))) (fun i _ _ _ _ _ _ => W - (intOf i).toNat)
      case atStart => exact ⟨0, Nat.zero_le _, rfl, HB.out⟩
      case round =>
        obtain ⟨q, hq2, rfl, hP⟩ := hrel
        have HP := Lib.hid hP
        clear HB
        obtain ⟨wo, rfl⟩ : ∃ wo : World, wo = wr := ⟨_, rfl⟩
        by_cases hlt : q < W
        · have hw : wo.cell? ⟨bw, off + q, none⟩ = some (.int .u64 (ws.getD q 0)) := (hP.1.cell hbw).trans (Hws.out q hlt)
          have hx := Hu.out (ws.getD q 0) (by rw [List.getD_eq_getElem?_getD, List.getElem?_eq_getElem (by rw [Hlen.out]; exact hlt)]; simp)
          obtain ⟨x, ex⟩ : ∃ x, x = ws.getD q 0 := ⟨_, rfl⟩
          rw [← ex] at hw hx
          have Hex := Lib.hid ex
          clear ex hP
          go_wp2_with fail
          go_loopw [13, 14, 65] (fun _ _ i wr => ∃ j : Nat, j ≤ 8 ∧ i = .int .i64 j ∧ PkB w.heap.size A 256 w wr (stg n ws 256 (64 * q + 8 * j))) (fun _ _ i _ => 8 - (intOf i).toNat)
          case atStart => exact ⟨0, by omega, rfl, HP.out⟩
          case round =>
            obtain ⟨j, hj, rfl, hP⟩ := hrel
            have HP2 := Lib.hid hP
            clear hP HP
            by_cases hlt8 : j < 8
            · by_cases hin : 64 * q + 8 * j < n
              · have hi1 : (64 * q + 8 * j) / (8 * 256) < A := by rw [← HA.out]; omega
                have hcr := HP2.out.row _ hi1
                have hcb := HP2.out.byte _ ((64 * q + 8 * j) % (8 * 256) / 8) hi1 (by omega)
                simp only [Nat.reduceMul] at hi1 hcr hcb
                obtain ⟨hcb1, hcb2⟩ := hcb
                go_wp2_with fail
                go_region
                go_wp2
                go_roundw
                case rel =>
                  refine ⟨j + 1, by omega, by go_num, (HP2.out.put _ _ _).drew.congr (fun i p _ hp => ?_)⟩
                  rw [show 64 * q + 8 * (j + 1) = 64 * q + 8 * j + 8 by omega, stg_step n ws 256 (64 * q + 8 * j) i p (by omega) hp (by omega), show 8 * 256 = 2048 from rfl]
                  have hv : pkByte n ws (64 * q + 8 * j) = x / 2 ^ (8 * j) % 256 := by
                    unfold pkByte
                    rw [if_pos hin, show (64 * q + 8 * j) / 64 = q by omega, show (64 * q + 8 * j) % 64 = 8 * j by omega, ← Hex.out]
                  rw [hv]
                case measure => simp [intOf] <;> omega
              · exfalso; have := HW.out; omega
            · obtain rfl : j = 8 := by omega
              go_wp2
              go_roundw
              case rel => exact ⟨q + 1, by omega, by go_num, HP2.out⟩
              case measure => simp [intOf] <;> omega
        · obtain rfl : q = W := by omega
          go_wp2
          go_ret2
          exact ⟨rfl, HP.out.congr (fun i p _ _ => stg_end n ws 256 (64 * q) i p (by rw [← HW.out]; omega))⟩
set_option maxHeartbeats 1000000 in
set_option maxRecDepth 100000 in
theorem pack_256r (n : Nat) (A W c off : Nat) (bw : Nat) (ws : List Int) (w : World) (h1 : 1 ≤ n) (h2 : n ≤ 65536) (hA : (n + 8 * 256 - 1) / (8 * 256) = A) (hW : (n + 63) / 64 = W) (hlen : ws.length = W) (hbw : bw < w.heap.size)
    (hws : ∀ i, i < W → w.cell? ⟨bw, off + i, none⟩ = some (.int .u64 (ws.getD i 0))) (hu : ∀ x ∈ ws, 0 ≤ x ∧ x < 18446744073709551616) (hm : n % 64 ≠ 0) (hlast : ws.getD (W - 1) 0 / 2 ^ (n % 64) = 0) :
    Calls Try.prog 20 #[.int .i64 n, .slice (some ⟨bw, off, none⟩) W c, .int .i64 256] w fun e w' => e = .returned (.tuple #[.slice (some ⟨w.heap.size, 0, none⟩) A A, .int .i64 0]) ∧ PkB w.heap.size A 256 w w' (fun i p => pkByte n ws (8 * (256 * i + p))) := by
  have hb : okSize 256 := by simp [okSize]
  have hA1 : 1 ≤ A := by omega
  have hA2 : A ≤ 64 := by omega
  have hA3 : ((n : Int) + 8 * 256 - 1) / (8 * 256) = (A : Int) := by omega
  have hW1 : ((n : Int) + 63) / 64 = W := by omega
  have hW2 : 1 ≤ W := by omega
  have hmk := fun w => run_make_row' (P := Try.prog) 49 5 (.int .u8 0) 1 Try.underlying49 pk_info5 rfl .i64 .i64 256 (by omega) (by omega) w
  simp only [Int.cast_ofNat_Int] at hmk
  have hmk2 := fun w => run_make_row' (P := Try.prog) 31 49 (.slice none 0 0) 24 Try.underlying31 pk_info49 rfl .i64 .i64 A (by omega) (by omega) w
  have HA := Lib.hid hA
  have HA3 := Lib.hid hA3
  have HW := Lib.hid hW
  have Hlen := Lib.hid hlen
  have Hws := Lib.hid hws
  have Hu := Lib.hid hu
  clear hA hA3 hW hlen hws hu
  have hq : ((W : Int) != W) = false := by simp
  have hm' : ((n : Int) % 64 != 0) = true := by simp; omega
  have hw1 : w.cell? ⟨bw, off + (W - 1), none⟩ = some (.int .u64 (ws.getD (W - 1) 0)) := Hws.out (W - 1) (by omega)
  obtain ⟨y, ey⟩ : ∃ y, y = ws.getD (W - 1) 0 := ⟨_, rfl⟩
  rw [← ey] at hw1 hlast
  have Hey := Lib.hid ey
  have hy : (y / 2 ^ (n % 64) != 0) = false := by simp [hlast]
  clear ey hlast
  go_enter Try.func20, Try.ntmps20
  go_wp2_with fail
  refine (bitmapped_ok _ _ _ (by omega) (by omega) hb).mono ?_
  rintro e w' ⟨rfl, rfl⟩
  go_wp2_with fail
  refine (areas_ok _ _ _ (by omega) (by omega) hb).mono ?_
  rintro e w' ⟨rfl, rfl⟩
  rw [HA3.out]
  go_wp2_with fail
  go_loopw [49, 10] (fun i _ wr => ∃ k : Nat, k ≤ A ∧ i = .int .i64 k ∧ PkA w.heap.size A 256 k w wr) (fun i _ _ => A - (intOf i).toNat)
  case atStart => exact ⟨0, Nat.zero_le _, rfl, PkA.start _ _ _⟩
  case round =>
    obtain ⟨k, hk, rfl, hP⟩ := hrel
    have HP := Lib.hid hP
    have hc := (show wr.heap.size = w.heap.size + 1 + k from hP.2.1)
    by_cases hlt : k < A
    · have hcell : wr.cell? ⟨w.heap.size, k, none⟩ = some (.slice none 0 0) := by
        obtain ⟨_, _, ⟨cur, h3, h4, h5⟩, _⟩ := hP
        rw [h3.cell, h5 k hlt, if_neg (by omega)]
      have hfree : wr.frozen? ⟨w.heap.size, k, none⟩ = false := by
        obtain ⟨_, _, ⟨cur, h3, h4, h5⟩, _⟩ := hP
        exact h3.free k
      have hlt2 : w.heap.size < wr.heap.size := by omega
      clear hc hP
      go_wp2
      go_roundw
      case rel => exact ⟨k + 1, by omega, by go_num, HP.out.step hlt rfl⟩
      case measure => simp [intOf] <;> omega
    · obtain rfl : A = k := by omega
      clear hc hP
      have HB := Lib.hid (HP.out.done n ws)
      clear HP
      go_wp2_with fail
      go_loopw [60, 11, 12, 13, 14, 65] (fun i _ _ _ _ _ wr => ∃ k : Nat, k ≤ W ∧ i = .int .i64 k ∧ PkB w.heap.size A 256 w wr (stg n ws 256 (64 * k))) (fun i _ _ _ _ _ _ => W - (intOf i).toNat)
      case atStart => exact ⟨0, Nat.zero_le _, rfl, HB.out⟩
      case round =>
        obtain ⟨q, hq2, rfl, hP⟩ := hrel
        have HP := Lib.hid hP
        clear HB
        obtain ⟨wo, rfl⟩ : ∃ wo : World, wo = wr := ⟨_, rfl⟩
        by_cases hlt : q < W
        · have hw : wo.cell? ⟨bw, off + q, none⟩ = some (.int .u64 (ws.getD q 0)) := (hP.1.cell hbw).trans (Hws.out q hlt)
          have hx := Hu.out (ws.getD q 0) (by rw [List.getD_eq_getElem?_getD, List.getElem?_eq_getElem (by rw [Hlen.out]; exact hlt)]; simp)
          obtain ⟨x, ex⟩ : ∃ x, x = ws.getD q 0 := ⟨_, rfl⟩
          rw [← ex] at hw hx
          have Hex := Lib.hid ex
          clear ex hP
          go_wp2_with fail
          go_loopw [13, 14, 65] (fun _ _ i wr => ∃ j : Nat, j ≤ 8 ∧ i = .int .i64 j ∧ PkB w.heap.size A 256 w wr (stg n ws 256 (64 * q + 8 * j))) (fun _ _ i _ => 8 - (intOf i).toNat)
          case atStart => exact ⟨0, by omega, rfl, HP.out⟩
          case round =>
            obtain ⟨j, hj, rfl, hP⟩ := hrel
            have HP2 := Lib.hid hP
            clear hP HP
            by_cases hlt8 : j < 8
            · by_cases hin : 64 * q + 8 * j < n
              · have hi1 : (64 * q + 8 * j) / (8 * 256) < A := by rw [← HA.out]; omega
                have hcr := HP2.out.row _ hi1
                have hcb := HP2.out.byte _ ((64 * q + 8 * j) % (8 * 256) / 8) hi1 (by omega)
                simp only [Nat.reduceMul] at hi1 hcr hcb
                obtain ⟨hcb1, hcb2⟩ := hcb
                go_wp2_with fail
                go_region
                go_wp2
                go_roundw
                case rel =>
                  refine ⟨j + 1, by omega, by go_num, (HP2.out.put _ _ _).drew.congr (fun i p _ hp => ?_)⟩
                  rw [show 64 * q + 8 * (j + 1) = 64 * q + 8 * j + 8 by omega, stg_step n ws 256 (64 * q + 8 * j) i p (by omega) hp (by omega), show 8 * 256 = 2048 from rfl]
                  have hv : pkByte n ws (64 * q + 8 * j) = x / 2 ^ (8 * j) % 256 := by
                    unfold pkByte
                    rw [if_pos hin, show (64 * q + 8 * j) / 64 = q by omega, show (64 * q + 8 * j) % 64 = 8 * j by omega, ← Hex.out]
                  rw [hv]
                case measure => simp [intOf] <;> omega
              · go_wp2
                go_roundw
                case rel => exact ⟨j + 1, by omega, by go_num, HP2.out.congr (fun i p _ _ => by rw [show 64 * q + 8 * (j + 1) = 64 * q + 8 * j + 8 by omega]; exact (stg_skip n ws 256 (64 * q + 8 * j) i p (by omega) (by omega)).symm)⟩
                case measure => simp [intOf] <;> omega
            · obtain rfl : j = 8 := by omega
              go_wp2
              go_roundw
              case rel => exact ⟨q + 1, by omega, by go_num, HP2.out⟩
              case measure => simp [intOf] <;> omega
        · obtain rfl : q = W := by omega
          go_wp2
          go_ret2
          exact ⟨rfl, HP.out.congr (fun i p _ _ => stg_end n ws 256 (64 * q) i p (by rw [← HW.out]; omega))⟩
end Go.Proofs.Ytjcinelcocmpnaa
