/- The document's head of a superblock: the walk. -/
import Derived.Test.YtjcinelcocmpnaaDoorRefI
import Derived.Test.YtjcinelcocmpnaaDoorHandW
namespace Go.Proofs.YtjcinelcocmpnaaDoor
open Go.RowKit
set_option linter.unusedVariables false
set_option linter.unusedSimpArgs false
def HdQ (s : Sup) (N : Nat) (w : World) (e : Ending) (w' : World) : Prop := ∃ g, e = .returned (.slice (some ⟨g, 0, none⟩) (N - 32) (N - 32)) ∧ w.heap.size ≤ g ∧ Below w.heap.size w w' ∧ RowA .u8 5 w' g (N - 32) (fun i => (headL s).getD i 0)
theorem u64_and255 (y : Int) (h0 : 0 ≤ y) (h1 : y < 18446744073709551616) : bits .and .u64 y 255 % 256 = y % 256 := by
  have h := bits_mask .u64 64 (by decide) (fun n h0 h1 => IntWalk.u64_in _ (by omega)) 8 (by decide) y h0 (by omega)
  rw [show ((2 : Int) ^ 8 - 1) = 255 by decide, show ((2 : Int) ^ 8) = 256 by decide] at h
  rw [h]; omega
theorem nums_bound (s : Sup) (hf : Fits s) (hk : Kinds s) (k : Nat) (h : k < 10) : 0 ≤ s.nums.getD k 0 ∧ s.nums.getD k 0 < 18446744073709551616 := by
  obtain ⟨a1, a2, a3, a4, a5, a6, a7, a8, a9, a10⟩ := hf
  obtain ⟨k1, k2, k3, k4, k5, k6⟩ := hk
  unfold okSize at a5
  have : k = 0 ∨ k = 1 ∨ k = 2 ∨ k = 3 ∨ k = 4 ∨ k = 5 ∨ k = 6 ∨ k = 7 ∨ k = 8 ∨ k = 9 := by omega
  rcases this with rfl | rfl | rfl | rfl | rfl | rfl | rfl | rfl | rfl | rfl <;> simp only [Sup.nums, List.getD_cons_zero, List.getD_cons_succ] <;> omega
def numsArr (s : Sup) : Array Value := (s.nums.map (Value.int .u64)).toArray
/-- The list under way: what is laid where g tells so. -/
def HdA (s : Sup) (M B : Nat) (g : Nat → Bool) (w wr : World) : Prop := Below w.heap.size w wr ∧ w.heap.size ≤ B ∧ Blk wr B 61 (numsArr s) ∧ RowA .u8 5 wr (B + 1) M (fun j => if g j then (headL s).getD j 0 else 0)
theorem HdA.step {s : Sup} {M B : Nat} {g g' : Nat → Bool} {w wr : World} (h : HdA s M B g w wr) (k : Nat) (y : Int) (hy : y = (headL s).getD k 0) (hk : g' k = true) (hg : ∀ j, j ≠ k → g' j = g j) : HdA s M B g' w (wr.setCell ⟨B + 1, k, none⟩ (.int .u8 y)) := by
  obtain ⟨h1, h2, h3, h4⟩ := h
  refine ⟨h1.setCell (by show w.heap.size ≤ B + 1; omega) _, h2, h3.far (by show B ≠ B + 1; omega) _, (h4.put k y).congr fun j hj => ?_⟩
  by_cases e : j = k
  · subst e; rw [if_pos rfl, if_pos hk, hy]
  · rw [if_neg e, hg j e]
theorem HdA.congr {s : Sup} {M B : Nat} {g g' : Nat → Bool} {w wr : World} (h : HdA s M B g w wr) (hg : ∀ j, g' j = g j) : HdA s M B g' w wr := by
  rw [show g' = g from funext hg]; exact h
set_option maxHeartbeats 1000000 in
set_option maxRecDepth 100000 in
theorem rhead_ok (s : Sup) (N : Nat) (w : World) (hf : Fits s) (hk : Kinds s) (hN : s.sz = N) : Calls Tryd.prog 28 #[.agg s.arr, .int .i64 N] w (HdQ s N w) := by
  have h5 := hf.2.2.2.2.1
  have hn : 128 ≤ N ∧ N ≤ 1024 := by unfold okSize at h5; omega
  obtain ⟨n1, n2⟩ := hn
  obtain ⟨wa, ewa⟩ : ∃ wa, wa = w.alloc (.cells s.arr 27) := ⟨_, rfl⟩
  have hba : Below w.heap.size w wa := by rw [ewa]; exact (Below.refl _ _).alloc (Nat.le_refl _) _
  have hfd := fields_ok s wa hf hk
  have hmk := fun w => run_make_row' (P := Tryd.prog) 28 5 (.int .u8 0) 1 Tryd.underlying28 hd_info5 rfl .i64 .i64 (N - 32) (by omega) (by omega) w
  rw [show ((N - 32 : Nat) : Int) = (N : Int) - 32 by omega] at hmk
  simp only [Sup.arr, Sup.nums, List.map_cons, List.map_nil] at hfd ewa ⊢
  have HFD := Lib.hid hfd
  have HBA := Lib.hid hba
  have EWA := Lib.hid ewa
  have HF := Lib.hid hf
  have HK := Lib.hid hk
  have HN := Lib.hid hN
  clear h5 hfd hba ewa hf hk hN
  go_enter Tryd.func28, Tryd.ntmps28
  go_wp2_with fail
  rw [← EWA.out]
  refine HFD.out.mono ?_
  rintro e w1 ⟨rfl, hb1⟩
  have HB1 := Lib.hid (HBA.out.trans (hb1.mono HBA.out.size))
  have m1 : IntKind.i64.wrap ((N : Int) - 32) = (N : Int) - 32 := IntWalk.i64_in _ (by omega)
  clear hb1 HFD
  go_wp2_with fail
  go_loopw [7] (fun i wr => ∃ t : Nat, t ≤ 8 ∧ i = .int .i64 t ∧ HdA s (N - 32) w1.heap.size (fun j => decide (j < t)) w wr) (fun i _ => 8 - (intOf i).toNat)
  case atStart =>
    refine ⟨0, by omega, rfl, (HB1.out.alloc HB1.out.size _).alloc (by have := HB1.out.size; simp; omega) _, HB1.out.size, (Blk.newAt _ _ _ _ rfl).alloc _, ?_⟩
    have := RowA.made .u8 5 (w1.alloc (.cells (numsArr s) 61)) (N - 32)
    rw [size_alloc] at this
    exact this
  case round =>
    obtain ⟨t, ht, rfl, hP⟩ := hrel
    have HP := Lib.hid hP
    by_cases hlt : t < 8
    · have d0 := hP.2.2.2.cell t (by omega)
      have f0 := hP.2.2.2.free t
      clear hP
      have ht8 : t = 0 ∨ t = 1 ∨ t = 2 ∨ t = 3 ∨ t = 4 ∨ t = 5 ∨ t = 6 ∨ t = 7 := by omega
      rcases ht8 with rfl | rfl | rfl | rfl | rfl | rfl | rfl | rfl
      all_goals
        go_wp2_with fail
        go_roundw
        case rel => first
          | exact ⟨1, by omega, rfl, HP.out.step _ _ (by rw [head_letter _ _ (by omega)]; rfl) (by simp) (fun j hj => by simp; omega)⟩
          | exact ⟨2, by omega, rfl, HP.out.step _ _ (by rw [head_letter _ _ (by omega)]; rfl) (by simp) (fun j hj => by simp; omega)⟩
          | exact ⟨3, by omega, rfl, HP.out.step _ _ (by rw [head_letter _ _ (by omega)]; rfl) (by simp) (fun j hj => by simp; omega)⟩
          | exact ⟨4, by omega, rfl, HP.out.step _ _ (by rw [head_letter _ _ (by omega)]; rfl) (by simp) (fun j hj => by simp; omega)⟩
          | exact ⟨5, by omega, rfl, HP.out.step _ _ (by rw [head_letter _ _ (by omega)]; rfl) (by simp) (fun j hj => by simp; omega)⟩
          | exact ⟨6, by omega, rfl, HP.out.step _ _ (by rw [head_letter _ _ (by omega)]; rfl) (by simp) (fun j hj => by simp; omega)⟩
          | exact ⟨7, by omega, rfl, HP.out.step _ _ (by rw [head_letter _ _ (by omega)]; rfl) (by simp) (fun j hj => by simp; omega)⟩
          | exact ⟨8, by omega, rfl, HP.out.step _ _ (by rw [head_letter _ _ (by omega)]; rfl) (by simp) (fun j hj => by simp; omega)⟩
        case measure => simp [intOf]
    · obtain rfl : t = 8 := by omega
      have hP8 : HdA s (N - 32) w1.heap.size (fun j => decide (j < plN 0)) w wr := hP
      have HP8 := Lib.hid hP8
      clear hP hP8
      go_wp2_with fail
      go_loopw [8, 9, 10, 11, 12] (fun f _ _ _ _ wr => ∃ k : Nat, k ≤ 10 ∧ f = .int .i64 k ∧ HdA s (N - 32) w1.heap.size (fun j => decide (j < plN k)) w wr) (fun f _ _ _ _ _ => 10 - (intOf f).toNat)
      case atStart => exact ⟨0, by omega, rfl, HP8.out⟩
      case round =>
        obtain ⟨k, hk, rfl, hQ⟩ := hrel
        have HQ := Lib.hid hQ
        clear HP HP8
        by_cases hlk : k < 10
        · have hpl := plN_le k
          have hwd := wdN_le k
          obtain ⟨x, ex⟩ : ∃ x, x = s.nums.getD k 0 := ⟨_, rfl⟩
          have c0 : wr.cell? ⟨w1.heap.size, k, none⟩ = some (.int .u64 x) := by
            rw [hQ.2.2.1.cell k, ex]
            have hl : k < s.nums.length := hlk
            simp [numsArr, hl]
          have EX := Lib.hid ex
          clear hQ ex
          go_wp2_with (first | (go_at_call 34; refine (place_ok k _ hlk).mono ?_; rintro e w' ⟨rfl, rfl⟩) | (go_at_call 35; refine (wide_ok k _ hlk).mono ?_; rintro e w' ⟨rfl, rfl⟩))
          clear c0
          obtain ⟨wo, rfl⟩ : ∃ wo : World, wo = wr := ⟨_, rfl⟩
          go_loopw [11, 12] (fun v i wq => ∃ q : Nat, q ≤ wdN k ∧ i = .int .i64 ((q : Int) - 1) ∧ v = .int .u64 (x / 2 ^ (8 * (wdN k - q))) ∧ HdA s (N - 32) w1.heap.size (fun j => decide (j < plN k ∨ (plN k + q ≤ j ∧ j < plN k + wdN k))) w wq) (fun _ i _ => (intOf i + 1).toNat)
          case atStart => exact ⟨wdN k, Nat.le_refl _, rfl, by rw [Nat.sub_self]; simp, HQ.out.congr fun j => by simp; omega⟩
          case round =>
            obtain ⟨q, hq, rfl, rfl, hR⟩ := hrel
            have HR := Lib.hid hR
            have hst : plN k + wdN k ≤ N - 32 := by
              have : k = 0 ∨ k = 1 ∨ k = 2 ∨ k = 3 ∨ k = 4 ∨ k = 5 ∨ k = 6 ∨ k = 7 ∨ k = 8 ∨ k = 9 := by omega
              rcases this with rfl | rfl | rfl | rfl | rfl | rfl | rfl | rfl | rfl | rfl <;> simp [plN, wdN] <;> omega
            by_cases hq0 : 0 < q
            · obtain ⟨r, rfl⟩ : ∃ r, q = r + 1 := ⟨q - 1, by omega⟩
              have d0 := hR.2.2.2.cell (plN k + r) (by omega)
              have f0 := hR.2.2.2.free (plN k + r)
              obtain ⟨y, ey⟩ : ∃ y, y = x / 2 ^ (8 * (wdN k - (r + 1))) := ⟨_, rfl⟩
              rw [← ey]
              have EY := Lib.hid ey
              clear hR ey
              go_wp2_with fail
              go_roundw
              case rel =>
                refine ⟨r, by omega, rfl, ?_, ?_⟩
                · rw [EY.out]
                  congr 1
                  rw [show 8 * (wdN k - r) = 8 * (wdN k - (r + 1)) + 8 by omega, Int.pow_add, ← Int.ediv_ediv_of_nonneg (Int.le_of_lt (Int.pow_pos (by decide)))]
                  rfl
                · refine HR.out.step _ _ ?_ (by simp only [decide_eq_true_eq]; omega) (fun j hj => by rw [decide_eq_decide]; omega)
                  have hb := nums_bound s HF.out HK.out k hlk
                  have hp : (0 : Int) < 2 ^ (8 * (wdN k - (r + 1))) := Int.pow_pos (by decide)
                  have hy0 : 0 ≤ y := by rw [EY.out, EX.out]; exact Int.ediv_nonneg hb.1 (Int.le_of_lt hp)
                  have hy1 : y < 18446744073709551616 := by
                    have : y ≤ x := by rw [EY.out]; exact Int.ediv_le_self _ (by rw [EX.out]; exact hb.1)
                    have := EX.out
                    omega
                  rw [u64_and255 y hy0 hy1, head_field s k r hlk (by omega), EY.out, EX.out, show wdN k - 1 - r = wdN k - (r + 1) by omega]
              case measure => simp [intOf]
            · obtain rfl : q = 0 := by omega
              have hS : HdA s (N - 32) w1.heap.size (fun j => decide (j < plN (k + 1))) w wr := HR.out.congr fun j => by
                rw [decide_eq_decide]; have : plN (k + 1) = plN k + wdN k := rfl; omega
              have HS := Lib.hid hS
              clear hR hS HR HQ EX hst
              go_wp2_with fail
              go_roundw
              case rel => first | exact ⟨k + 1, by omega, by go_num, HS.out⟩ | ((repeat apply Exists.intro); exact ⟨⟨k + 1, by omega, by go_num, HS.out⟩, rfl⟩)
              case measure => simp [intOf] <;> omega
        · obtain rfl : k = 10 := by omega
          have hS : RowA .u8 5 wr (w1.heap.size + 1) (N - 32) (fun i => (headL s).getD i 0) := hQ.2.2.2.congr fun j hj => by
            by_cases e : j < plN 10
            · rw [if_pos (decide_eq_true e)]
            · rw [if_neg (by simpa using e), head_behind s j (by have : plN 10 = 68 := rfl; omega)]
          have hfin : HdQ s N w (.returned (.slice (some ⟨w1.heap.size + 1, 0, none⟩) (N - 32) (N - 32))) wr := ⟨_, rfl, by have := HB1.out.size; omega, hQ.1, hS⟩
          have HF := Lib.hid hfin
          clear hQ hS hfin
          go_wp2_with fail
          go_ret
          exact HF.out
end Go.Proofs.YtjcinelcocmpnaaDoor
