/- The words of a chunk, the document's: words. -/
import Derived.Test.YtjcinelcocmpnaaDoorShaB
import Derived.Test.YtjcinelcocmpnaaDoorShaC
namespace Go.Proofs.YtjcinelcocmpnaaDoor
open Go.RowKit
set_option linter.unusedVariables false
set_option linter.unusedSimpArgs false
/-- The loops of words, behind t rounds. -/
def WdA (c : List Int) (t : Nat) (w wr : World) : Prop :=
  Below w.heap.size w wr ∧ wr.heap.size = w.heap.size + 1 + 1 ∧ RowA .u32 72 wr w.heap.size 64 (fun _ => 0) ∧ RowA .u32 72 wr (w.heap.size + 1) 64 (fun i => (schL c t).getD i 0)
theorem WdA.step {c : List Int} {t : Nat} {w wr : World} (h : WdA c t w wr) : WdA c (t + 1) w (wr.drew.setCell ⟨w.heap.size + 1, t, none⟩ (.int .u32 (nextW c (schL c t)))) := by
  obtain ⟨h1, h2, h4, h5⟩ := h
  refine ⟨h1.drew.setCell (by simp) _, (by simpa [World.setCell] using h2), (h4.drewN 1).far (by simp) _, ?_⟩
  refine ((RowA.drewN h5 1).put t _).congr (fun i hi => ?_)
  rw [schL_next]
theorem WdA.step0 {c : List Int} {t : Nat} {w wr : World} (h : WdA c t w wr) : WdA c (t + 1) w (wr.setCell ⟨w.heap.size + 1, t, none⟩ (.int .u32 (nextW c (schL c t)))).drew := by
  obtain ⟨h1, h2, h4, h5⟩ := h
  refine ⟨(h1.setCell (by simp) _).drew, (by simpa [World.setCell] using h2), (h4.far (by simp) _).drewN 1, ?_⟩
  refine RowA.drewN ((h5.put t _).congr (fun i hi => ?_)) 1
  rw [schL_next]
theorem WdA.drewN {c : List Int} {t : Nat} {w wr : World} (h : WdA c t w wr) (n : Nat) : WdA c t w (wr.drewN n) :=
  ⟨⟨h.1.os, h.1.tape, h.1.output, h.1.size, h.1.block⟩, h.2.1, h.2.2.1, h.2.2.2⟩
set_option maxHeartbeats 1000000 in
set_option maxRecDepth 100000 in
theorem words_ok (c : List Int) (b off n cp p : Nat) (w : World) (hp : p + 64 ≤ n) (hn : n ≤ cp) (hm : n ≤ 1099511627776) (hb : b < w.heap.size) (hc : ∀ i, i < 64 → w.cell? ⟨b, off + (p + i), none⟩ = some (.int .u8 (c.getD i 0))) :
    Calls Tryd.prog 47 #[.slice (some ⟨b, off, none⟩) n cp, .int .i64 p] w fun e w' => e = .returned (aggOf .u32 (schL c 64)) ∧ Below w.heap.size w w' := by
  have HC := Lib.hid hc
  clear hc
  go_enter Tryd.func47, Tryd.ntmps47
  go_wp2_with fail
  go_loopw [6] (fun i wr => ∃ t : Nat, t ≤ 16 ∧ i = .int .i64 t ∧ WdA c t w wr) (fun i _ => 16 - (intOf i).toNat)
  case atStart =>
    refine ⟨0, by omega, rfl, ((Below.refl _ _).alloc (Nat.le_refl _) _).alloc (by simp) _, by simp, ?_, ?_⟩
    · refine RowA.alloc ?_ _
      refine ⟨_, Blk.newAt _ _ _ _ (by simp), ?_, fun i hi => ?_⟩
      · rfl
      · exact zero_row (n := 64) rfl i hi
    · refine ⟨_, Blk.newAt _ _ _ _ (by simp), ?_, fun i hi => ?_⟩
      · rfl
      · exact zero_row (n := 64) rfl i hi
  case round =>
    obtain ⟨t, ht, rfl, hP⟩ := hrel
    have HP := Lib.hid hP
    by_cases hlt : t < 16
    · have c0 := (hP.1.cell (p := ⟨b, off + (p + (4 * t)), none⟩) hb).trans (HC.out (4 * t) (by omega))
      have c1 := (hP.1.cell (p := ⟨b, off + (p + (4 * t + 1)), none⟩) hb).trans (HC.out (4 * t + 1) (by omega))
      have c2 := (hP.1.cell (p := ⟨b, off + (p + (4 * t + 2)), none⟩) hb).trans (HC.out (4 * t + 2) (by omega))
      have c3 := (hP.1.cell (p := ⟨b, off + (p + (4 * t + 3)), none⟩) hb).trans (HC.out (4 * t + 3) (by omega))
      have d0 := hP.2.2.2.cell t (by omega)
      have f0 := hP.2.2.2.free t
      have hn' : nextW c (schL c t) = word4 (c.getD (4 * t) 0) (c.getD (4 * t + 1) 0) (c.getD (4 * t + 2) 0) (c.getD (4 * t + 3) 0) := by
        unfold nextW; rw [schL_length, if_pos hlt]
      have Hn := Lib.hid hn'
      obtain ⟨a, ea⟩ : ∃ a, a = c.getD (4 * t) 0 := ⟨_, rfl⟩
      obtain ⟨bb, eb⟩ : ∃ a, a = c.getD (4 * t + 1) 0 := ⟨_, rfl⟩
      obtain ⟨x, ex⟩ : ∃ a, a = c.getD (4 * t + 2) 0 := ⟨_, rfl⟩
      obtain ⟨y, ey⟩ : ∃ a, a = c.getD (4 * t + 3) 0 := ⟨_, rfl⟩
      rw [← ea] at c0
      rw [← eb] at c1
      rw [← ex] at c2
      rw [← ey] at c3
      have E0 := Lib.hid ea
      have E1 := Lib.hid eb
      have E2 := Lib.hid ex
      have E3 := Lib.hid ey
      have q0 : IntKind.i64.wrap (4 * (t : Int)) = 4 * (t : Int) := IntWalk.i64_in _ (by omega)
      have q1 : IntKind.i64.wrap ((p : Int) + 4 * (t : Int)) = (p : Int) + 4 * (t : Int) := IntWalk.i64_in _ (by omega)
      have q2 : IntKind.i64.wrap ((p : Int) + 4 * (t : Int) + 1) = (p : Int) + 4 * (t : Int) + 1 := IntWalk.i64_in _ (by omega)
      have q3 : IntKind.i64.wrap ((p : Int) + 4 * (t : Int) + 2) = (p : Int) + 4 * (t : Int) + 2 := IntWalk.i64_in _ (by omega)
      have q4 : IntKind.i64.wrap ((p : Int) + 4 * (t : Int) + 3) = (p : Int) + 4 * (t : Int) + 3 := IntWalk.i64_in _ (by omega)
      have q5 : ((p : Int) + 4 * (t : Int)).toNat = p + 4 * t := by omega
      have q6 : ((p : Int) + 4 * (t : Int) + 1).toNat = p + (4 * t + 1) := by omega
      have q7 : ((p : Int) + 4 * (t : Int) + 2).toNat = p + (4 * t + 2) := by omega
      have q8 : ((p : Int) + 4 * (t : Int) + 3).toNat = p + (4 * t + 3) := by omega
      have r0 : (0 : Int) ≤ (p : Int) + 4 * (t : Int) := by omega
      have r1 : (0 : Int) ≤ (p : Int) + 4 * (t : Int) + 1 := by omega
      have r2 : (0 : Int) ≤ (p : Int) + 4 * (t : Int) + 2 := by omega
      have r3 : (0 : Int) ≤ (p : Int) + 4 * (t : Int) + 3 := by omega
      have s0 : (p : Int) + 4 * (t : Int) < (n : Int) := by omega
      have s1 : (p : Int) + 4 * (t : Int) + 1 < (n : Int) := by omega
      have s2 : (p : Int) + 4 * (t : Int) + 2 < (n : Int) := by omega
      have s3 : (p : Int) + 4 * (t : Int) + 3 < (n : Int) := by omega
      clear hn' hP ea eb ex ey
      go_wp2_with fail
      go_still_tail 42, (by kernel_rfl)
      go_wp2_with fail
      go_roundw
      case rel =>
        refine ⟨t + 1, by omega, by go_num, ?_⟩
        have := HP.out.step
        rw [Hn.out, ← E0.out, ← E1.out, ← E2.out, ← E3.out] at this
        exact this
      case measure => simp [intOf] <;> omega
    · clear hP
      obtain ⟨t0, rfl⟩ : ∃ t0, t0 = t := ⟨_, rfl⟩
      go_wp2_with fail
      go_loopw [7, 8, 9, 10, 11] (fun i _ _ _ _ wr => ∃ t : Nat, 16 ≤ t ∧ t ≤ 64 ∧ i = .int .i64 t ∧ WdA c t w wr) (fun i _ _ _ _ _ => 64 - (intOf i).toNat)
      case atStart => exact ⟨16, by omega, by omega, rfl, (show t0 = 16 by omega) ▸ HP.out⟩
      case round =>
        obtain ⟨t, ht0, ht, rfl, hP⟩ := hrel
        clear HP
        have HP := Lib.hid hP
        by_cases hlt : t < 64
        · have c2 := hP.2.2.2.cell (t - 2) (by omega)
          have c7 := hP.2.2.2.cell (t - 7) (by omega)
          have c15 := hP.2.2.2.cell (t - 15) (by omega)
          have c16 := hP.2.2.2.cell (t - 16) (by omega)
          have d0 := hP.2.2.2.cell t (by omega)
          have f0 := hP.2.2.2.free t
          have hn' : nextW c (schL c t) = mixw ((schL c t).getD (t - 2) 0) ((schL c t).getD (t - 7) 0) ((schL c t).getD (t - 15) 0) ((schL c t).getD (t - 16) 0) := by
            unfold nextW; rw [schL_length, if_neg (by omega)]
          have Hn := Lib.hid hn'
          obtain ⟨y, ey⟩ : ∃ a, a = (schL c t).getD (t - 2) 0 := ⟨_, rfl⟩
          obtain ⟨bb, eb⟩ : ∃ a, a = (schL c t).getD (t - 7) 0 := ⟨_, rfl⟩
          obtain ⟨x, ex⟩ : ∃ a, a = (schL c t).getD (t - 15) 0 := ⟨_, rfl⟩
          obtain ⟨d, ed⟩ : ∃ a, a = (schL c t).getD (t - 16) 0 := ⟨_, rfl⟩
          rw [← ey] at c2
          rw [← eb] at c7
          rw [← ex] at c15
          rw [← ed] at c16
          have E0 := Lib.hid ey
          have E1 := Lib.hid eb
          have E2 := Lib.hid ex
          have E3 := Lib.hid ed
          clear hn' hP ey eb ex ed
          go_wp2_with fail
          refine (turn_17 _ _).mono ?_
          rintro e w' ⟨rfl, rfl⟩
          go_wp2_with fail
          refine (turn_19 _ _).mono ?_
          rintro e w' ⟨rfl, rfl⟩
          go_wp2_with fail
          refine (turn_7 _ _).mono ?_
          rintro e w' ⟨rfl, rfl⟩
          go_wp2_with fail
          refine (turn_18 _ _).mono ?_
          rintro e w' ⟨rfl, rfl⟩
          go_wp2_with fail
          go_region
          go_wp2
          go_roundw
          case rel =>
            refine ⟨t + 1, by omega, by omega, by go_num, ?_⟩
            have := HP.out.step0
            rw [Hn.out, ← E0.out, ← E1.out, ← E2.out, ← E3.out] at this
            exact this
          case measure => simp [intOf] <;> omega
        · obtain rfl : t = 64 := by omega
          have hb := hP.2.2.2
          have hr : RowA .u32 72 wr (w.heap.size + 1) (schL c 64).length (fun i => (schL c 64).getD i 0) := by rw [schL_length]; exact hb
          have harr := hr.arr
          obtain ⟨cur, hb1, hb2, _⟩ := hP.2.2.1
          have Hb1 := Lib.hid hb1
          have Hb2 := Lib.hid hb2
          have Harr := Lib.hid harr
          have hsz : (schL c 64).length = 64 := schL_length c 64
          have Hsz := Lib.hid hsz
          clear hP hb hr harr hb1 hb2 hsz
          go_wp2_with (first | (with_reducible refine wpList_load_row rfl 72 (.tmp 5) rfl _ rfl 72 ((schL c 64).map (Value.int .u32)).toArray (0, 0) _ Harr.out.out Tryd.underlying72 rfl ?c1 ?_) | (with_reducible refine wpList_store_row rfl 72 (.tmp 4) (.tmp 102) rfl _ ((schL c 64).map (Value.int .u32)).toArray rfl rfl 72 cur Hb1.out.out ?c2 ?c3 (sh_one _ _) ?_))
          case c1 => rw [Hsz.out]; exact Option.map_eq_some_iff.1 sh_size
          case c2 => rw [Hsz.out]; exact Option.map_eq_some_iff.1 sh_size
          case c3 => rw [Hsz.out]; exact Hb2.out
          refine bodyPost_ret (v := .agg ((schL c 64).map (Value.int .u32)).toArray) (results_cell_row (t := 72) (fr := (0, 0)) rfl _ _ w.heap.size _ _ rfl (Hb1.out.setRow _).out Tryd.underlying72 rfl ?_) rfl ⟨rfl, ?_⟩
          · simp only [List.size_toArray, List.length_map, Hsz.out]; exact sh_size
          · exact below_setRow HP.out.1 (by omega) _
end Go.Proofs.YtjcinelcocmpnaaDoor
