/- Runs of writing steps: zeros, steps, run. -/
import Derived.Test.YtigfcoibbmndpaaLwR
import Derived.Test.YtigfcoibbmndpaaRowT
import Derived.Outline
namespace Go.Proofs.Ytigfcoibbmndpaa
open Go.RowKit
open Go.ChangeMaps
set_option linter.unusedVariables false
set_option linter.unusedSimpArgs false
def RunV.agg (r : RunV) : Value := .agg #[.int .i64 r.kind, .int .i64 r.put.blk, r.put.tv, .bool r.put.past, .int .i64 r.len]
theorem tr_isnt (v : Value) (w : World) : (Instr.typeAssert (.iface 68 v) 30 104 true).run Try.prog w = .ok (.tuple #[.pointer none, .bool false]) w := by kernel_rfl
theorem tr_errno (v : Value) (w : World) : (Instr.typeAssert (.iface 68 v) 30 68 true).run Try.prog w = .ok (.tuple #[v, .bool true]) w := by kernel_rfl
set_option maxHeartbeats 2000000 in
set_option maxRecDepth 100000 in
theorem trouble_no (w : World) (x : Int) :
    Calls Try.prog 41 #[.iface 68 (.int .i64 x)] w fun e w' => e = .returned (.tuple #[.int .i64 x, .int .i64 (-1)]) ∧ ∃ n, w' = w.drewN n := by
  have h1 := tr_isnt (.int .i64 x)
  have h2 := tr_errno (.int .i64 x)
  go_enter Try.func41, Try.ntmps41
  go_wp2_with fail
  go_ret2
  exact ⟨rfl, 0, rfl⟩
/-- How many blocks a run of zeroes writes. -/
def zerosN (r : RunV) (nb : Nat) : Nat := min r.len.toNat (nb - r.put.at nb)
def stepsN (r : RunV) (nb : Nat) : Nat := if r.kind = 1 then zerosN r nb else 1
set_option maxHeartbeats 2000000 in
set_option maxRecDepth 100000 in
theorem zeros_ok (w : World) (r : RunV) (nb : Nat) (h1 : 1 ≤ nb) (h2 : nb ≤ 8192) (hr : Rd .u8 w r.put.tv r.put.txt) :
    Calls Try.prog 47 #[r.agg, .int .i64 nb] w fun e w' => e = .returned (.int .i64 (zerosN r nb)) ∧ Below w.heap.size w w' := by
  obtain ⟨A, cp, edv⟩ := hr.slice
  have hlt := r.put.at_lt h1
  obtain ⟨K, eK⟩ : ∃ K, K = r.put.at nb := ⟨_, rfl⟩
  obtain ⟨Z, eZ⟩ : ∃ Z, Z = zerosN r nb := ⟨_, rfl⟩
  have hZ := eZ
  unfold zerosN at hZ
  rw [← eZ]
  rw [← eK] at hlt hZ
  obtain ⟨L, eL⟩ : ∃ L, L = r.put.txt.length := ⟨_, rfl⟩
  rw [← eL] at edv
  have hbk : ∀ W, Calls Try.prog 15 #[.agg #[.int .i64 r.put.blk, .slice A L cp, .bool r.put.past], .int .i64 nb] W fun e w' => e = .returned (.int .i64 K) ∧ Below W.heap.size W w' := fun W => by
    have h := block_ok W r.put nb h1 h2
    unfold PutV.agg at h
    rw [edv, ← eK] at h; exact h
  obtain ⟨kind, ⟨blk, tv, txt, past⟩, len⟩ := r
  dsimp only at edv hbk hZ
  subst edv
  simp only [RunV.agg]
  obtain ⟨w1, e1⟩ : ∃ w1, w1 = w.alloc (.cells #[.int .i64 kind, .int .i64 blk, .slice A L cp, .bool past, .int .i64 len] 55) := ⟨_, rfl⟩
  have hb1 : Below w.heap.size w w1 := by rw [e1]; exact (Below.refl _ _).alloc (Nat.le_refl _) _
  have hbl : Blk w1 w.heap.size 55 #[.int .i64 kind, .int .i64 blk, .slice A L cp, .bool past, .int .i64 len] := by rw [e1]; exact Blk.new _ _ _
  have hs1 : w1.heap.size = w.heap.size + 1 := by rw [e1]; simp
  have HBK := Lib.hid (hbk w1)
  have HBL := Lib.hid hbl
  have HB1 := Lib.hid hb1
  have E1 := Lib.hid e1
  have m1 : IntKind.i64.wrap ((nb : Int) - (K : Int)) = (nb : Int) - (K : Int) := IntWalk.i64_in _ (by omega)
  clear hr eK eZ eL hbk hb1 hbl e1
  go_enter Try.func47, Try.ntmps47
  go_wp2_with fail
  rw [← E1.out]
  refine HBK.out.mono ?_
  rintro e w2 ⟨rfl, hb2⟩
  have c4 : w2.cell? ⟨w.heap.size, 4, none⟩ = some (.int .i64 len) := (HBL.out.below hb2 (by omega)).cell 4
  have HB2 := Lib.hid (HB1.out.trans (hb2.mono (by omega)))
  clear hb2 HBK HBL HB1 E1
  by_cases h0 : len < 0
  · have hz : (Z : Int) = 0 := by omega
    have HZ := Lib.hid hz
    clear hZ hz
    have hn : ¬ ((nb : Int) - (K : Int) < 0) := by omega
    go_wp2_with fail
    go_ret
    exact ⟨by first | rw [HZ.out]; rfl | rw [HZ.out], HB2.out⟩
  · by_cases h3 : (nb : Int) - K < len
    · have hz : (Z : Int) = (nb : Int) - K := by omega
      have HZ := Lib.hid hz
      clear hZ hz
      go_wp2_with fail
      go_ret
      exact ⟨by first | rw [HZ.out]; rfl | rw [HZ.out], HB2.out⟩
    · have hz : (Z : Int) = len := by omega
      have HZ := Lib.hid hz
      clear hZ hz
      go_wp2_with fail
      go_ret
      exact ⟨by first | rw [HZ.out]; rfl | rw [HZ.out], HB2.out⟩
set_option maxHeartbeats 2000000 in
set_option maxRecDepth 100000 in
theorem steps_ok (w : World) (r : RunV) (nb : Nat) (h1 : 1 ≤ nb) (h2 : nb ≤ 8192) (hr : Rd .u8 w r.put.tv r.put.txt) :
    Calls Try.prog 26 #[r.agg, .int .i64 nb] w fun e w' => e = .returned (.int .i64 (stepsN r nb)) ∧ Below w.heap.size w w' := by
  obtain ⟨A, cp, edv⟩ := hr.slice
  obtain ⟨Z, eZ⟩ : ∃ Z, Z = stepsN r nb := ⟨_, rfl⟩
  have hZ := eZ
  unfold stepsN at hZ
  rw [← eZ]
  have hzr : ∀ W, Below w.heap.size w W → Calls Try.prog 47 #[r.agg, .int .i64 nb] W fun e w' => e = .returned (.int .i64 (zerosN r nb)) ∧ Below W.heap.size W w' := fun W hW => zeros_ok W r nb h1 h2 (hr.below hW)
  obtain ⟨L, eL⟩ : ∃ L, L = r.put.txt.length := ⟨_, rfl⟩
  rw [← eL] at edv
  unfold RunV.agg at hzr ⊢
  rw [edv] at hzr ⊢
  have HZR0 := Lib.hid hzr
  have HZ0 := Lib.hid hZ
  obtain ⟨kind, ⟨blk, tv, txt, past⟩, len⟩ := r
  obtain ⟨w1, e1⟩ : ∃ w1, w1 = w.alloc (.cells #[.int .i64 kind, .int .i64 blk, .slice A L cp, .bool past, .int .i64 len] 55) := ⟨_, rfl⟩
  have hb1 : Below w.heap.size w w1 := by rw [e1]; exact (Below.refl _ _).alloc (Nat.le_refl _) _
  have HZR := Lib.hid (HZR0.out w1 hb1)
  have HB1 := Lib.hid hb1
  have E1 := Lib.hid e1
  dsimp only
  by_cases hk : kind = 1
  · have HZ := Lib.hid (show Z = zerosN ⟨kind, ⟨blk, tv, txt, past⟩, len⟩ nb by rw [HZ0.out, if_pos hk])
    subst hk
    clear hr eZ hZ edv eL hzr hb1 e1 HZ0 HZR0
    go_enter Try.func26, Try.ntmps26
    go_wp2_with fail
    rw [← E1.out]
    refine HZR.out.mono ?_
    rintro e w2 ⟨rfl, hb2⟩
    have HB2 := Lib.hid (HB1.out.trans (hb2.mono HB1.out.size))
    clear hb2 HZR HB1
    go_wp2_with fail
    go_ret
    exact ⟨by rw [HZ.out]; rfl, HB2.out⟩
  · have HZ := Lib.hid (show Z = 1 by rw [HZ0.out, if_neg hk])
    have n1 : (kind == 1) = false := by simp; omega
    have HB2 := Lib.hid (show Below w.heap.size w (w.alloc (.cells #[.int .i64 kind, .int .i64 blk, .slice A L cp, .bool past, .int .i64 len] 55)) from (Below.refl _ _).alloc (Nat.le_refl _) _)
    clear hr eZ hZ edv eL hzr hb1 e1 HZ0 HZR0 HZR HB1 E1 hk
    go_enter Try.func26, Try.ntmps26
    go_wp2_with fail
    go_ret
    exact ⟨by rw [HZ.out]; rfl, HB2.out⟩
end Go.Proofs.Ytigfcoibbmndpaa
