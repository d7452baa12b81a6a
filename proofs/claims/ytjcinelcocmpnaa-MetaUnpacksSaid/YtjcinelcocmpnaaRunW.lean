/- The document's Unpack where it may: what it answers, blocks of 128 bytes. -/
import Derived.Test.YtjcinelcocmpnaaUnpE
namespace Go.Proofs.Ytjcinelcocmpnaa
open Go.RowKit
set_option linter.unusedVariables false
set_option linter.unusedSimpArgs false
set_option maxHeartbeats 400000 in
theorem up64_ok (n W : Nat) (w : World) (h1 : 1 ≤ n) (h2 : n ≤ 65536) (hW : (n + 63) / 64 = W) : Calls Try.prog 26 #[.int .i64 n, .int .i64 64] w fun e w' => e = .returned (.int .i64 W) ∧ w = w' := by
  have h3 : ((n : Int) + 63) / 64 = W := by omega
  have H := Lib.hid h3
  clear h3 hW
  go_enter Try.func26, Try.ntmps26
  go_wp2
  go_ret
  have hfin : Ending.returned (Value.int .i64 (((n : Int) + 64 - 1) / 64)) = .returned (.int .i64 W) := by rw [show (n : Int) + 64 - 1 = (n : Int) + 63 by omega, H.out]
  exact ⟨hfin, rfl⟩
theorem plus_bit (bit : Nat → Bool) (t : Nat) (h : bit t = true) : IntKind.u64.wrap ((wd bit t (t / 64) : Int) + IntKind.u64.wrap (2 ^ (t % 64))) = ((wd bit (t + 1) (t / 64) : Nat) : Int) := by
  have h1 : (2 : Nat) ^ (t % 64) < 2 ^ 64 := Nat.pow_lt_pow_right (by decide) (by omega)
  have h2 : IntKind.u64.wrap (2 ^ (t % 64)) = ((2 ^ (t % 64) : Nat) : Int) := by
    rw [wraps64 (2 ^ (t % 64)) (by have := Int.pow_pos (n := 2) (m := t % 64) (by decide); omega) (by exact_mod_cast h1)]
    simp
  have h3 := wd_sum bit t h
  have h4 := wd_lt bit (t + 1) (t / 64)
  rw [h2, h3, wraps64 _ (by omega) (by omega)]
  simp
theorem UnA.plus {B W : Nat} {w wr : World} {b : Nat → Bool} {t : Nat} (h : UnA B W w wr (wd b t)) (hb : b t = true) :
    UnA B W w (wr.setCell ⟨B, t / 64, none⟩ (.int .u64 (IntKind.u64.wrap ((wd b t (t / 64) : Int) + IntKind.u64.wrap (2 ^ (t % 64)))))).drew (wd b (t + 1)) := by
  rw [plus_bit b t hb]
  refine (h.put _ _).drew.congr (fun k hk => ?_)
  split
  · next e => subst e; rfl
  · next e => exact (wd_far b t k e).symm
set_option maxHeartbeats 1000000 in
set_option maxRecDepth 100000 in
theorem runpack_128 (n : Nat) (A W c off g : Nat) (bs : Nat → List Int) (w : World) (h1 : 1 ≤ n) (h2 : n ≤ 65536) (hA : (n + 8 * 128 - 1) / (8 * 128) = A) (hW : (n + 63) / 64 = W) (hg : g < w.heap.size)
    (hbs : ∀ i, i < A → ∃ x, w.cell? ⟨g, off + i, none⟩ = some x ∧ Rd .u8 w x (bs i)) (hlen : ∀ i, i < A → (bs i).length = 0 ∨ (bs i).length = 128) (hu : ∀ i, i < A → ∀ x ∈ bs i, 0 ≤ x ∧ x < 256) :
    Calls Try.prog 15 #[.int .i64 n, .slice (some ⟨g, off, none⟩) A c, .int .i64 128] w fun e w' => e = .returned (.tuple #[.slice (some ⟨w.heap.size, 0, none⟩) W W, .bool (lostIn bs A), .int .i64 0]) ∧ UnA w.heap.size W w w' (wd (bitAt bs 128) n) := by
  have hb : okSize 128 := by simp [okSize]
  have hA1 : 1 ≤ A := by omega
  have hA2 : A ≤ 64 := by omega
  have hA3 : ((n : Int) + 8 * 128 - 1) / (8 * 128) = (A : Int) := by omega
  have hW1 : ((n : Int) + 63) / 64 = W := by omega
  have hmk := fun w => run_make_row' (P := Try.prog) 34 39 (.int .u64 0) 8 Try.underlying34 un_info39 rfl .i64 .i64 W (by omega) (by omega) w
  have HA := Lib.hid hA
  have HA3 := Lib.hid hA3
  have HW := Lib.hid hW
  have Hlen := Lib.hid hlen
  have Hbs := Lib.hid hbs
  have Hu := Lib.hid hu
  clear hA hA3 hW hlen hbs hu
  have hq : ((A : Int) != A) = false := by simp
  go_enter Try.func15, Try.ntmps15
  go_wp2_with fail
  refine (domain_yes _ _ _ (by omega) (by omega) hb).mono ?_
  rintro e w' ⟨rfl, rfl⟩
  go_wp2_with fail
  refine (up_ok _ _ _ (by omega) (by omega) hb).mono ?_
  rintro e w' ⟨rfl, rfl⟩
  rw [HA3.out]
  go_wp2_with fail
  go_loop [10, 11] (fun l i => ∃ k : Nat, k ≤ A ∧ i = .int .i64 k ∧ l = .bool (lostIn bs k)) (fun _ i => A - (intOf i).toNat)
  case atStart => exact ⟨0, Nat.zero_le _, rfl, rfl⟩
  case round =>
    obtain ⟨k, hk, rfl, hl, rfl⟩ := hrel
    by_cases hlt : k < A
    · obtain ⟨x, hx, hr⟩ := Hbs.out k hlt
      obtain ⟨a', c', rfl⟩ := hr.slice
      have hL := Hlen.out k hlt
      obtain ⟨l, el⟩ : ∃ l, l = lostIn bs k := ⟨_, rfl⟩
      obtain ⟨m, em⟩ : ∃ m, m = (bs k).length := ⟨_, rfl⟩
      have hnext : lostIn bs (k + 1) = (l || decide (m = 0)) := by rw [lostIn, ← el, ← em]
      rw [← el]
      rw [← em] at hx hL
      have Hnext := Lib.hid hnext
      clear hnext el em hr
      rcases hL with rfl | rfl
      all_goals
        cases l
        all_goals
          go_wp2
          go_round
          case rel => exact ⟨k + 1, by omega, by go_num, by rw [Hnext.out]; rfl⟩
          case measure => simp [intOf] <;> omega
    · obtain rfl : A = k := by omega
      clear hlt
      go_wp2_with fail
      refine (up64_ok n W _ h1 h2 HW.out).mono ?_
      rintro e w' ⟨rfl, rfl⟩
      go_wp2_with fail
      go_loopw [13, 14, 15] (fun i _ _ wr => ∃ t : Nat, t ≤ n ∧ i = .int .i64 t ∧ UnA w.heap.size W w wr (wd (bitAt bs 128) t)) (fun i _ _ _ => n - (intOf i).toNat)
      case atStart => exact ⟨0, Nat.zero_le _, rfl, UnA.start _ _⟩
      case round =>
        obtain ⟨t, ht, rfl, hP⟩ := hrel
        have HP := Lib.hid hP
        by_cases hlt : t < n
        · have hi1 : t / (8 * 128) < A := by rw [← HA.out]; omega
          have hi2 : t / 64 < W := by rw [← HW.out]; omega
          obtain ⟨x, hx, hr⟩ := Hbs.out _ hi1
          have hx' := (hP.1.cell hg).trans hx
          have hr' := hr
          have hw := HP.out.word _ hi2
          obtain ⟨hw1, hw2⟩ := hw
          have hL := Hlen.out _ hi1
          have Hr := Lib.hid hr
          clear hP hx hr
          by_cases hz : (bs (t / (8 * 128))).length = 0
          · obtain ⟨a', c', rfl⟩ := hr'.slice
            have hbit : bitAt bs 128 t = true := by simp [bitAt, hz]
            rw [hz] at hx'
            simp only [Nat.reduceMul] at hi1 hx'
            have Hbit := Lib.hid hbit
            clear hr' hbit hz hL Hr
            go_wp2_with fail
            go_region
            go_wp2
            go_roundw
            case rel => exact ⟨t + 1, by omega, by go_num, HP.out.plus Hbit.out⟩
            case measure => simp [intOf] <;> omega
          · rcases hr' with ⟨h0, _⟩ | ⟨gb, ob, cb, rfl, h3, h4, h5, h6⟩
            · rw [h0] at hz; simp at hz
            have hL2 : (bs (t / (8 * 128))).length = 128 := by omega
            have hc := (HP.out.1.cell h5).trans (h6 (t % (8 * 128) / 8) (by omega))
            rw [hL2] at hx'
            obtain ⟨y, ey⟩ : ∃ y, y = (bs (t / (8 * 128))).getD (t % (8 * 128) / 8) 0 := ⟨_, rfl⟩
            rw [← ey] at hc
            have Hey := Lib.hid ey
            clear ey h3 h4 h5 h6 hL hz
            simp only [Nat.reduceMul] at hi1 hx' hc
            have hy := Hu.out (t / 1024) hi1 y (by rw [Hey.out]; rw [List.getD_eq_getElem?_getD, List.getElem?_eq_getElem (by rw [hL2]; omega)]; simp)
            have hz2 := div_pow_byte y (t % 8) hy.1 hy.2
            have hb0 : bitAt bs 128 t = decide (y / 2 ^ (t % 8) % 2 = 1) := by
              unfold bitAt
              rw [hL2, ← Hey.out]
              simp
            have hand := and_one (y / 2 ^ (t % 8)) hz2.1 hz2.2
            have hres : (bits BinOp.and IntKind.u8 (y / 2 ^ (t % 1024 % 8)) 1 == 1) = bitAt bs 128 t := by
              rw [show t % 1024 % 8 = t % 8 by omega, hand, hb0, Bool.eq_iff_iff]; simp
            have hres2 : (bits BinOp.and IntKind.u8 (y / 2 ^ (t % 8)) 1 == 1) = bitAt bs 128 t := by
              rw [hand, hb0, Bool.eq_iff_iff]; simp
            cases hbit : bitAt bs 128 t
            · rw [hbit] at hres hres2
              have Hbit := Lib.hid hbit
              clear hbit hb0 hand hz2 hy hL2
              go_wp2
              go_roundw
              case rel => exact ⟨t + 1, by omega, by go_num, HP.out.no Hbit.out⟩
              case measure => simp [intOf] <;> omega
            · rw [hbit] at hres hres2
              have Hbit := Lib.hid hbit
              clear hbit hb0 hand hz2 hy hL2
              go_wp2_with fail
              go_region
              go_wp2
              go_roundw
              case rel => exact ⟨t + 1, by omega, by go_num, HP.out.plus Hbit.out⟩
              case measure => simp [intOf] <;> omega
        · obtain rfl : t = n := by omega
          go_wp2
          go_ret3
          exact ⟨rfl, HP.out⟩
end Go.Proofs.Ytjcinelcocmpnaa
