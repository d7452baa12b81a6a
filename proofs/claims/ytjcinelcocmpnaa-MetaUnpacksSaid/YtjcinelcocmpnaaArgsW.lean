/- Lists of blocks handed in with room behind each: argBlocks. -/
import Derived.Test.YtjcinelcocmpnaaHandsW
namespace Go.Proofs.Ytjcinelcocmpnaa
open Go.RowKit
set_option linter.unusedVariables false
set_option linter.unusedSimpArgs false
/-- What argBlocks lays. -/
def argsV (G : Nat → Nat) (V : Nat → Value) (zs : Nat → List Int) (i : Nat) : Value := argV (G i) (V i) (zs i).length
def ArgsQ (w : World) (n : Nat) (G : Nat → Nat) (V : Nat → Value) (zs : Nat → List Int) (e : Ending) (w' : World) : Prop :=
  e = .returned (.slice (some ⟨w.heap.size, 0, none⟩) (n + 1) (n + 1)) ∧ Below w.heap.size w w' ∧ ∃ q, w.heap.size < q ∧ RowV 49 w' w.heap.size (n + 1) (extG (argsV G V zs) n (.slice (some ⟨q, 0, none⟩) 1 1)) ∧ RowA .u8 5 w' q 1 (fun _ => 77)
theorem BkIn.val {w : World} {v : Value} {n : Nat} {V : Nat → Value} {zs : Nat → List Int} (h : BkIn w v n V zs) (i : Nat) (hi : i < n) : ∃ a c, V i = .slice a (zs i).length c := by
  rcases h with ⟨h0, _⟩ | ⟨g, off, c, e, h1, h2, h3, h4⟩
  · omega
  · exact (h4 i hi).2.slice
set_option maxHeartbeats 1000000 in
set_option maxRecDepth 100000 in
theorem argBlocks_ok (v l : Value) (n B0 : Nat) (V : Nat → Value) (zs : Nat → List Int) (G : Nat → Nat) (w w0 : World) (hr : BkIn w v n V zs) (hl : HandsA B0 w0 w l n zs G) (hn : n * 24 ≤ 140737488351232) (hm : ∀ i, i < n → (zs i).length ≤ 140737488351232) :
    Calls Try.prog 13 #[l, v] w (ArgsQ w n G V zs) := by
  have hmk := fun w => run_make_row' (P := Try.prog) 31 49 (.slice none 0 0) 24 Try.underlying31 hd_info49 rfl .i64 .i64 (n + 1) (by omega) (by omega) w
  simp only [Int.natCast_add, Int.cast_ofNat_Int] at hmk
  obtain ⟨a, c, rfl⟩ := hr.slice
  have HR := Lib.hid hr
  have HM := Lib.hid hm
  have hlc : ∀ i, i < n → ∃ g cap, l = .slice (some ⟨g, 0, none⟩) n cap ∧ g < w.heap.size ∧ w.cell? ⟨g, i, none⟩ = some (handV G zs i) := by
    intro i hi
    obtain ⟨g, cap, e, h1, h2, h3, _, h4⟩ := own_cells hl.2.1 (by omega)
    exact ⟨g, cap, e, h2, by rw [h4 i hi]; simp [hi]⟩
  obtain ⟨la, lc, rfl⟩ : ∃ la lc, l = .slice la n lc := by
    rcases hl.2.1.2 with ⟨rfl, h0⟩ | ⟨g, cap, cur, rfl, _⟩
    · exact ⟨none, 0, by rw [h0]⟩
    · exact ⟨_, cap, rfl⟩
  have HLC := Lib.hid hlc
  clear hr hm hlc hl
  go_enter Try.func13, Try.ntmps13
  go_wp2_with fail
  go_loopw [6] (fun i wr => ∃ k : Nat, k ≤ n ∧ i = .int .i64 k ∧ Below w.heap.size w wr ∧ w.heap.size < wr.heap.size ∧ RowV 49 wr w.heap.size (n + 1) (extG (argsV G V zs) k (.slice none 0 0))) (fun i _ => n - (intOf i).toNat)
  case atStart => exact ⟨0, Nat.zero_le _, rfl, (Below.refl _ _).alloc (Nat.le_refl _) _, by simp, (RowV.made _ _ _ _).congr (fun i _ => by unfold extG; rw [if_neg (by omega)])⟩
  case round =>
    obtain ⟨k, hk, rfl, hB, hsz, hrow⟩ := hrel
    have HB := Lib.hid hB
    have HROW := Lib.hid hrow
    by_cases hlt : k < n
    · obtain ⟨g, off, rfl, hg, hc, hrd⟩ := HR.out.at k hlt
      obtain ⟨lg, lcap, e, hlg, hlc⟩ := HLC.out k hlt
      simp only [Value.slice.injEq] at e
      obtain ⟨rfl, _, rfl⟩ := e
      obtain ⟨va, vc, hv⟩ := HR.out.val k hlt
      have hc' := (hB.cell hg).trans hc
      have hl' := (hB.cell hlg).trans hlc
      have hs := hrow.cell k (by omega)
      have hf := hrow.free k
      have hkb : k < n + 1 := by omega
      have hkb2 : (k : Int) < (n : Int) + 1 := by omega
      have hkb3 : (0 : Int) ≤ (n : Int) - k := by omega
      have harg := fun w => arg_ok (G k) (zs k).length vc va w (HM.out k hlt)
      rw [← hv] at harg
      obtain ⟨xa, xl, xc, hxv⟩ : ∃ xa xl xc, argV (G k) (V k) (zs k).length = .slice xa xl xc := by
        rw [hv]; unfold argV; cases va <;> exact ⟨_, _, _, rfl⟩
      rw [hxv] at harg
      have hxv' : argsV G V zs k = .slice xa xl xc := hxv
      have HXV := Lib.hid hxv'
      have HARG := Lib.hid harg
      clear hxv hxv'
      have hext : extG (argsV G V zs) k (.slice none 0 0) k = .slice none 0 0 := extG_eq _ _ _
      rw [hext] at hs
      unfold handV at hl'
      clear hv hc hlc hrd hB hrow harg hext
      go_wp2_with fail
      refine wp_region_still_tail 12 (by kernel_rfl) (by kernel_rfl) ?_
      simp only [List.take_succ_cons, List.take_zero, List.drop_succ_cons, List.drop_zero]
      repeat still_step
      still_call ((HARG.out _).mono fun _ _ h => ⟨h.1, h.2.symm⟩)
      repeat still_step
      refine wpStill_nil ?_
      change wpList _ _ _ _ _ wr.drew
      go_wp2
      go_roundw
      case rel =>
        refine ⟨k + 1, by omega, by go_num, (HB.out.setCell (Nat.le_refl _) _).drew, by have := hsz; simp [World.setCell]; omega, ?_⟩
        rw [← HXV.out]
        refine ((show RowV 49 wr.drew w.heap.size (n + 1) _ from HROW.out).put k (argsV G V zs k)).congr (fun i hi => ?_)
        unfold extG
        by_cases e : i = k
        · subst e; rw [if_pos rfl, if_pos (by omega)]
        · rw [if_neg e]
          by_cases e2 : i < k
          · rw [if_pos e2, if_pos (by omega)]
          · rw [if_neg e2, if_neg (by omega)]
      case measure => simp [intOf] <;> omega
    · obtain rfl : k = n := by omega
      have hs := hrow.cell k (by omega)
      have hf := hrow.free k
      have hext : extG (argsV G V zs) k (.slice none 0 0) k = .slice none 0 0 := extG_eq _ _ _
      rw [hext] at hs
      clear hB hrow hext
      go_wp2
      go_ret
      refine ⟨rfl, (HB.out.setCell (Nat.le_refl _) _).alloc (by rw [size_setCell]; omega) _, wr.heap.size, hsz, ?_, ?_⟩
      · refine ((HROW.out.put k (.slice (some ⟨wr.heap.size, 0, none⟩) 1 1)).alloc _).congr (fun i hi => ?_)
        unfold extG
        by_cases e : i = k
        · subst e; rw [if_pos rfl, if_neg (by omega)]
        · rw [if_neg e, if_pos (by omega), if_pos (by omega)]
      · refine ⟨#[.int .u8 77], ?_, rfl, fun i hi => ?_⟩
        · have := Blk.new (wr.setCell ⟨w.heap.size, k, none⟩ (.slice (some ⟨wr.heap.size, 0, none⟩) 1 1)) 5 #[.int .u8 77]
          rw [size_setCell] at this
          exact this
        · obtain rfl : i = 0 := by omega
          rfl
end Go.Proofs.Ytjcinelcocmpnaa
