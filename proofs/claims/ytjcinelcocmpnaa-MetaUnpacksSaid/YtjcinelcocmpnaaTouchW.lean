/- That lists of blocks handed in are as they were: untouched, untouchedBlocks. -/
import Derived.Test.YtjcinelcocmpnaaArgsW
import Derived.Test.YtjcinelcocmpnaaSame
namespace Go.Proofs.Ytjcinelcocmpnaa
open Go.RowKit
set_option linter.unusedVariables false
set_option linter.unusedSimpArgs false
set_option maxHeartbeats 1000000 in
theorem untouched_ok (g : Nat) (v : Value) (zs : List Int) (w : World) (hr : Rd .u8 w v zs) (hm : zs.length ≤ 140737488351232) (hg : RowA .u8 5 w g (zs.length + 6) (handF zs 6)) :
    Calls Try.prog 31 #[.slice (some ⟨g, 0, none⟩) (zs.length + 6) (zs.length + 6), v] w (SameP w true) := by
  obtain ⟨A, c, rfl⟩ := hr.slice
  obtain ⟨L, eL⟩ : ∃ L, L = zs.length := ⟨_, rfl⟩
  have hS : Calls Try.prog 22 #[.slice (some ⟨g, 0, none⟩) zs.length (zs.length + 6), .slice A zs.length c] w (SameP w true) := by
    have := sameB_ok _ _ zs zs w (hg.rd zs (zs.length + 6) (by omega) (by omega) (fun i hi => by unfold handF; rw [if_pos hi])) hr (by unfold maxLen; omega) (by unfold maxLen; omega)
    rw [decide_eq_true rfl] at this
    exact this
  have hc : ∀ j, j < 6 → w.cell? ⟨g, zs.length + j, none⟩ = some (.int .u8 (200 + (j : Int))) := by
    intro j hj
    rw [hg.cell _ (by omega)]
    unfold handF
    rw [if_neg (by omega), if_pos (by omega)]
    congr 3; omega
  rw [← eL] at hS hc hm ⊢
  have HS := Lib.hid hS
  have HC := Lib.hid hc
  clear hS hc hg hr eL
  go_enter Try.func31, Try.ntmps31
  go_wp2
  go_loop [5] (fun i => ∃ j : Nat, j ≤ 6 ∧ i = .int .i64 j) (fun i => 6 - (intOf i).toNat)
  case atStart => exact ⟨0, by omega, rfl⟩
  case round =>
    obtain ⟨j, hj, rfl⟩ := hrel
    by_cases hlt : j < 6
    · have hc := HC.out j hlt
      go_wp2
      go_round
      case rel => exact ⟨j + 1, by omega, by go_num⟩
      case measure => simp [intOf] <;> omega
    · obtain rfl : j = 6 := by omega
      go_wp2_with fail
      refine HS.out.mono ?_
      rintro e w1 ⟨m, rfl, rfl⟩
      go_wp2
      go_ret
      exact ⟨m, rfl, rfl⟩
/-- All that was handed in is as it was. -/
def TouchOk (w : World) (l v : Value) (Bg q n : Nat) (V : Nat → Value) (zs : Nat → List Int) (G : Nat → Nat) : Prop :=
  BkIn w v n V zs ∧ (∀ i, i < n → ∃ g cap, l = .slice (some ⟨g, 0, none⟩) n cap ∧ g < w.heap.size ∧ w.cell? ⟨g, i, none⟩ = some (handV G zs i)) ∧ (∀ i, i < n → RowA .u8 5 w (G i) ((zs i).length + 6) (handF (zs i) 6)) ∧
    RowV 49 w Bg (n + 1) (extG (argsV G V zs) n (.slice (some ⟨q, 0, none⟩) 1 1)) ∧ RowA .u8 5 w q 1 (fun _ => 77) ∧ ∃ la lc, l = .slice la n lc
theorem TouchOk.below {w w1 : World} {l v : Value} {Bg q n : Nat} {V : Nat → Value} {zs : Nat → List Int} {G : Nat → Nat} (h : TouchOk w l v Bg q n V zs G) (hb : Below w.heap.size w w1) : TouchOk w1 l v Bg q n V zs G := by
  obtain ⟨h1, h2, h3, h4, h5, h6⟩ := h
  refine ⟨h1.below hb, fun i hi => ?_, fun i hi => (h3 i hi).below hb (h3 i hi).lt, h4.below hb h4.lt, h5.below hb h5.lt, h6⟩
  obtain ⟨g, cap, e, hg, hc⟩ := h2 i hi
  exact ⟨g, cap, e, Nat.lt_of_lt_of_le hg hb.size, (hb.cell hg).trans hc⟩
theorem argV_rd {w : World} {g : Nat} {v : Value} {zs : List Int} (h : Rd .u8 w v zs) (hg : RowA .u8 5 w g (zs.length + 6) (handF zs 6)) : Rd .u8 w (argV g v zs.length) zs := by
  obtain ⟨A, c, rfl⟩ := h.slice
  cases A
  · rcases h with ⟨rfl, _⟩ | ⟨b, off, c', e, _⟩
    · exact .inl ⟨rfl, _, _, rfl⟩
    · simp at e
  · exact hg.rd zs (zs.length + 6) (by omega) (by omega) (fun i hi => by unfold handF; rw [if_pos hi])
set_option maxHeartbeats 1000000 in
set_option maxRecDepth 100000 in
theorem untouchedBlocks_ok (l v : Value) (Bg q n : Nat) (V : Nat → Value) (zs : Nat → List Int) (G : Nat → Nat) (w : World) (h : TouchOk w l v Bg q n V zs G) (hn : n * 24 ≤ 140737488351232) (hm : ∀ i, i < n → (zs i).length ≤ 140737488351232) :
    Calls Try.prog 17 #[l, .slice (some ⟨Bg, 0, none⟩) (n + 1) (n + 1), v] w (SameP w true) := by
  obtain ⟨h1, h2, h3, h4, h5, la, lc, rfl⟩ := h
  obtain ⟨a, c, rfl⟩ := h1.slice
  have HM := Lib.hid hm
  have H1 := Lib.hid h1
  have H2 := Lib.hid h2
  have H3 := Lib.hid h3
  have H4 := Lib.hid h4
  have H5 := Lib.hid h5
  clear hm h1 h2 h3 h4 h5
  go_enter Try.func17, Try.ntmps17
  go_wp2
  go_loopw [7, 8] (fun i _ wr => ∃ k m : Nat, k ≤ n ∧ i = .int .i64 k ∧ wr = w.drewN m) (fun i _ _ => n - (intOf i).toNat)
  case atStart => exact ⟨0, 0, Nat.zero_le _, rfl, rfl⟩
  case round =>
    obtain ⟨k, m, hk, rfl, rfl⟩ := hrel
    by_cases hlt : k < n
    · obtain ⟨g, off, rfl, hg, hc, hrd⟩ := H1.out.at k hlt
      obtain ⟨lg, lcap, e, hlg, hlc⟩ := H2.out k hlt
      simp only [Value.slice.injEq] at e
      obtain ⟨rfl, _, rfl⟩ := e
      have hkb : k < n + 1 := by omega
      have hkb2 : (k : Int) < (n : Int) + 1 := by omega
      have hgc := H4.out.cell k hkb
      rw [extG_lt hlt] at hgc
      have hT : ∀ k', Calls Try.prog 31 #[handV G zs k, V k] (w.drewN k') (SameP (w.drewN k') true) := fun k' => untouched_ok (G k) (V k) (zs k) (w.drewN k') hrd (HM.out k hlt) (H3.out k hlt)
      have hS : ∀ k', Calls Try.prog 22 #[argsV G V zs k, V k] (w.drewN k') (SameP (w.drewN k') true) := fun k' => by
        have := sameB_ok _ _ (zs k) (zs k) (w.drewN k') (argV_rd hrd (H3.out k hlt)) hrd (by have := HM.out k hlt; unfold maxLen; omega) (by have := HM.out k hlt; unfold maxLen; omega)
        rw [decide_eq_true rfl] at this
        exact this
      have HT := Lib.hid hT
      have HS := Lib.hid hS
      clear hT hS hrd
      go_wp2_with fail
      go_quiet ((go_at_call 31; exact same_quiet (HT.out _)))
      go_wp2_with fail
      go_quiet ((go_at_call 22; exact same_quiet (HS.out _)))
      go_wp2
      go_roundw
      case rel => exact ⟨k + 1, _, by omega, by go_num, rfl⟩
      case measure => simp [intOf] <;> omega
    · obtain rfl : k = n := by omega
      have hgc := H4.out.cell k (by omega)
      rw [extG_eq] at hgc
      have hq := H5.out.cell 0 (by omega)
      go_wp2
      go_ret
      exact ⟨_, rfl, rfl⟩
end Go.Proofs.Ytjcinelcocmpnaa
