/- meta.Unpack: what it answers where it may, blocks of 256 bytes. -/
import Derived.Test.YtjcinelcocmpnaaUnpW
namespace Go.Proofs.Ytjcinelcocmpnaa
open Go.RowKit
set_option linter.unusedVariables false
set_option linter.unusedSimpArgs false
set_option maxHeartbeats 1000000 in
set_option maxRecDepth 100000 in
theorem unpack_256 (n : Nat) (A W c off g : Nat) (bs : Nat → List Int) (w : World) (h1 : 1 ≤ n) (h2 : n ≤ 65536) (hA : (n + 8 * 256 - 1) / (8 * 256) = A) (hW : (n + 63) / 64 = W) (hg : g < w.heap.size)
    (hbs : ∀ i, i < A → ∃ x, w.cell? ⟨g, off + i, none⟩ = some x ∧ Rd .u8 w x (bs i)) (hlen : ∀ i, i < A → (bs i).length = 0 ∨ (bs i).length = 256) (hu : ∀ i, i < A → ∀ x ∈ bs i, 0 ≤ x ∧ x < 256) :
    Calls Try.prog 14 #[.int .i64 n, .slice (some ⟨g, off, none⟩) A c, .int .i64 256] w fun e w' => e = .returned (.tuple #[.slice (some ⟨w.heap.size, 0, none⟩) W W, .bool (lostIn bs A), .int .i64 0]) ∧ UnA w.heap.size W w w' (wd (bitAt bs 256) n) := by
  have hb : okSize 256 := by simp [okSize]
  have hA1 : 1 ≤ A := by omega
  have hA2 : A ≤ 64 := by omega
  have hA3 : ((n : Int) + 8 * 256 - 1) / (8 * 256) = (A : Int) := by omega
  have hW1 : ((n : Int) + 63) / 64 = W := by omega
  have hmk := fun w => run_make_row' (P := Try.prog) 34 39 (.int .u64 0) 8 Try.underlying34 un_info39 rfl .i64 .i64 W (by omega) (by omega) w
  have HA := Lib.hid hA
  have HA3 := Lib.hid hA3
  have HW := Lib.hid hW
  have Hlen := Lib.hid hlen
  have Hbs := Lib.hid hbs
  have Hu := Lib.hid hu
  clear hA hA3 hW hlen hbs hu
  have hq : ((A : Int) != A) = false := by simp
  go_enter Try.func14, Try.ntmps14
  go_wp2_with fail
  refine (bitmapped_ok _ _ _ (by omega) (by omega) hb).mono ?_
  rintro e w' ⟨rfl, rfl⟩
  go_wp2_with fail
  refine (areas_ok _ _ _ (by omega) (by omega) hb).mono ?_
  rintro e w' ⟨rfl, rfl⟩
  rw [HA3.out]
  go_wp2_with fail
  go_loop [10, 12, 30] (fun l _ i => ∃ k : Nat, k ≤ A ∧ i = .int .i64 k ∧ l = .bool (lostIn bs k)) (fun _ _ i => A - (intOf i).toNat)
  case atStart => exact ⟨0, Nat.zero_le _, rfl, rfl⟩
  case round =>
    obtain ⟨k, hk, rfl, hl, rfl⟩ := hrel
    by_cases hlt : k < A
    · obtain ⟨x, hx, hr⟩ := Hbs.out k hlt
      obtain ⟨a', c', rfl⟩ := hr.slice
      have hL := Hlen.out k hlt
      obtain ⟨l, el⟩ : ∃ l, l = lostIn bs k := ⟨_, rfl⟩
      obtain ⟨m, em⟩ : ∃ m, m = (bs k).length := ⟨_, rfl⟩
      have hnext : lostIn bs (k + 1) = (l || decide (m = 0)) := by rw [lostIn, ← el, ← em]
      rw [← el]
      rw [← em] at hx hL
      have Hnext := Lib.hid hnext
      clear hnext el em hr
      rcases hL with rfl | rfl
      all_goals
        cases l
        all_goals
          go_wp2
          go_round
          case rel => exact ⟨k + 1, by omega, by go_num, by rw [Hnext.out]; rfl⟩
          case measure => simp [intOf] <;> omega
    · obtain rfl : A = k := by omega
      clear hlt
      go_wp2_with fail
      go_loopw [14, 15, 55] (fun _ _ i wr => ∃ t : Nat, t ≤ n ∧ i = .int .i64 t ∧ UnA w.heap.size W w wr (wd (bitAt bs 256) t)) (fun _ _ i _ => n - (intOf i).toNat)
      case atStart => exact ⟨0, Nat.zero_le _, rfl, UnA.start _ _⟩
      case round =>
        obtain ⟨t, ht, rfl, hP⟩ := hrel
        have HP := Lib.hid hP
        by_cases hlt : t < n
        · have hi1 : t / (8 * 256) < A := by rw [← HA.out]; omega
          have hi2 : t / 64 < W := by rw [← HW.out]; omega
          obtain ⟨x, hx, hr⟩ := Hbs.out _ hi1
          have hx' := (hP.1.cell hg).trans hx
          have hr' := hr
          have hw := HP.out.word _ hi2
          obtain ⟨hw1, hw2⟩ := hw
          have hL := Hlen.out _ hi1
          have Hr := Lib.hid hr
          clear hP hx hr
          by_cases hz : (bs (t / (8 * 256))).length = 0
          · obtain ⟨a', c', rfl⟩ := hr'.slice
            have hbit : bitAt bs 256 t = true := by simp [bitAt, hz]
            rw [hz] at hx'
            simp only [Nat.reduceMul] at hi1 hx'
            have Hbit := Lib.hid hbit
            clear hr' hbit hz hL Hr
            go_wp2
            go_roundw
            case rel => exact ⟨t + 1, by omega, by go_num, HP.out.yes Hbit.out⟩
            case measure => simp [intOf] <;> omega
          · rcases hr' with ⟨h0, _⟩ | ⟨gb, ob, cb, rfl, h3, h4, h5, h6⟩
            · rw [h0] at hz; simp at hz
            have hL2 : (bs (t / (8 * 256))).length = 256 := by omega
            have hc := (HP.out.1.cell h5).trans (h6 (t % (8 * 256) / 8) (by omega))
            rw [hL2] at hx'
            obtain ⟨y, ey⟩ : ∃ y, y = (bs (t / (8 * 256))).getD (t % (8 * 256) / 8) 0 := ⟨_, rfl⟩
            rw [← ey] at hc
            have Hey := Lib.hid ey
            clear ey h3 h4 h5 h6 hL hz
            simp only [Nat.reduceMul] at hi1 hx' hc
            have hy := Hu.out (t / 2048) hi1 y (by rw [Hey.out]; rw [List.getD_eq_getElem?_getD, List.getElem?_eq_getElem (by rw [hL2]; omega)]; simp)
            have hz2 := div_pow_byte y (t % 8) hy.1 hy.2
            have hb0 : bitAt bs 256 t = decide (y / 2 ^ (t % 8) % 2 = 1) := by
              unfold bitAt
              rw [hL2, ← Hey.out]
              simp
            have hand := and_one (y / 2 ^ (t % 8)) hz2.1 hz2.2
            have hres : (bits BinOp.and IntKind.u8 (y / 2 ^ (t % 8)) 1 == 1) = bitAt bs 256 t := by
              rw [hand, hb0, Bool.eq_iff_iff]; simp
            cases hbit : bitAt bs 256 t
            · rw [hbit] at hres
              have Hbit := Lib.hid hbit
              clear hbit hb0 hand hz2 hy hL2
              go_wp2
              go_roundw
              case rel => exact ⟨t + 1, by omega, by go_num, HP.out.no Hbit.out⟩
              case measure => simp [intOf] <;> omega
            · rw [hbit] at hres
              have Hbit := Lib.hid hbit
              clear hbit hb0 hand hz2 hy hL2
              go_wp2
              go_roundw
              case rel => exact ⟨t + 1, by omega, by go_num, HP.out.yes Hbit.out⟩
              case measure => simp [intOf] <;> omega
        · obtain rfl : t = n := by omega
          go_wp2
          go_ret3
          exact ⟨rfl, HP.out⟩
end Go.Proofs.Ytjcinelcocmpnaa
