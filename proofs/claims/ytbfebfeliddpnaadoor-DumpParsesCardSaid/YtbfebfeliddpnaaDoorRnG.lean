/- The reference's reader: the flags. -/
import Derived.Test.YtbfebfeliddpnaaDoorRnF
import Derived.Outline
import Derived.Deep.CutRange
namespace Go.Proofs.YtbfebfeliddpnaaDoor
open Go.RowKit
set_option linter.unusedVariables false
set_option linter.unusedSimpArgs false
def namesA : Array Value := #[.string (flagName 0), .string (flagName 1), .string (flagName 2), .string (flagName 3)]
theorem names_results (tmps : Array Value) (w : World) (g : Nat) (hp : tmps.getD 0 undef = .pointer (some ⟨g, 0, none⟩)) (H : Blk w g 82 namesA) :
    (results Tryd.f63 tmps).run Tryd.prog w = .ok (.agg namesA) w := by
  have hp' : tmps[0]?.getD undef = .pointer (some ⟨g, 0, none⟩) := by simpa using hp
  have d0 := H.cell 0
  have d1 := H.cell 1
  have d2 := H.cell 2
  have d3 := H.cell 3
  have hu := Tryd.underlying82
  simp only [namesA, List.getElem?_toArray, List.getElem?_cons_zero, List.getElem?_cons_succ] at d0 d1 d2 d3 ⊢
  simp [results, Tryd.results63, hp', asAddr, go_sem, d0, d1, d2, d3]
set_option maxHeartbeats 1000000 in
set_option maxRecDepth 100000 in
theorem flag_ok (w : World) : Calls Tryd.prog 63 #[] w fun e w' => e = .returned (.agg namesA) ∧ Below w.heap.size w w' := by
  go_enter Tryd.func63, Tryd.ntmps63
  go_wp2_with fail
  exact bodyPost_ret (names_results _ _ w.heap.size rfl (Blk.new _ _ _)) rfl ⟨rfl, (Below.refl _ _).alloc (Nat.le_refl _) _⟩
/-- What flags has done. -/
def RFlagsQ (w : World) (q : Nat) (t : ByteArray) (F fl : Nat) (e : Ending) (w' : World) : Prop :=
  ∃ w1, Below w.heap.size w w1 ∧ match flagFrom t fl with
    | some i => e = .returned (.bool true) ∧ w' = (w1.setCell ⟨q, 10, none⟩ (.int .u32 (F ||| 2 ^ i : Nat))).setCell ⟨q, 14, none⟩ (.int .i64 (i + 1 : Nat))
    | none => e = .returned (.bool false) ∧ w' = w1
set_option maxHeartbeats 4000000 in
set_option maxRecDepth 100000 in
theorem rflags_ok (w : World) (q : Nat) (t : ByteArray) (F fl : Nat) (hF : F < 16) (hfl : fl ≤ 4) (hc : w.cell? ⟨q, 10, none⟩ = some (.int .u32 (F : Nat))) (hd : w.cell? ⟨q, 14, none⟩ = some (.int .i64 (fl : Nat))) (hz : ∀ o, w.frozen? ⟨q, o, none⟩ = false) (hq : q < w.heap.size) :
    Calls Tryd.prog 70 #[.pointer (some ⟨q, 0, none⟩), .string t] w (RFlagsQ w q t F fl) := by
  obtain ⟨Q, eQ⟩ : ∃ Q, Q = RFlagsQ w q t F fl := ⟨_, rfl⟩
  rw [← eQ]
  have EQ := Lib.hid eQ
  have HC := Lib.hid (flag_ok w)
  have HZ := Lib.hid hz
  have HC10 := Lib.hid hc
  have HC14 := Lib.hid hd
  clear eQ hz hc hd
  go_enter Tryd.func70, Tryd.ntmps70
  go_wp2_with fail
  refine HC.out.mono ?_
  rintro e w1 ⟨rfl, hb⟩
  obtain ⟨g, eg⟩ : ∃ g, g = w1.heap.size := ⟨_, rfl⟩
  obtain ⟨w2, e2⟩ : ∃ x, x = w1.alloc (.cells namesA 82) := ⟨_, rfl⟩
  have hb2 : Below w.heap.size w w2 := by rw [e2]; exact hb.alloc hb.size _
  have hg : Blk w2 g 82 namesA := by rw [e2, eg]; exact Blk.new _ _ _
  have c10 : w2.cell? ⟨q, 10, none⟩ = some (.int .u32 (F : Nat)) := (hb2.cell (p := ⟨q, 10, none⟩) hq).trans HC10.out
  have c14 : w2.cell? ⟨q, 14, none⟩ = some (.int .i64 (fl : Nat)) := (hb2.cell (p := ⟨q, 14, none⟩) hq).trans HC14.out
  have f10 : w2.frozen? ⟨q, 10, none⟩ = false := (hb2.frozen (p := ⟨q, 10, none⟩) hq).trans (HZ.out 10)
  have f14 : w2.frozen? ⟨q, 14, none⟩ = false := (hb2.frozen (p := ⟨q, 14, none⟩) hq).trans (HZ.out 14)
  have HB2 := Lib.hid hb2
  have HG := Lib.hid hg
  have EG := Lib.hid eg
  have E2 := Lib.hid e2
  clear HC hb hb2 hg eg e2 HZ HC10 HC14
  unfold namesA at E2
  unfold namesA
  go_upto_region 2 with (fail)
  rw [show w1.heap.size = g from EG.out.symm, ← E2.out]
  go_wp2_with fail
  go_loop [6] (fun iv => ∃ i : Nat, iv = .int .i64 (i : Nat) ∧ fl ≤ i ∧ i ≤ 4 ∧ flagFrom t i = flagFrom t fl) (fun iv => 4 - (intOf iv).toNat)
  case atStart => exact ⟨fl, rfl, Nat.le_refl _, hfl, rfl⟩
  case round =>
    obtain ⟨i, rfl, hi1, hi2, hif⟩ := hrel
    by_cases hlt : i < 4
    · have hc : w2.cell? ⟨g, i, none⟩ = some (.string (flagName i)) := by
        rw [HG.out.cell]
        have : i = 0 ∨ i = 1 ∨ i = 2 ∨ i = 3 := by omega
        rcases this with rfl | rfl | rfl | rfl <;> rfl
      by_cases hFn : flagName i = t
      · have HQ : Hid (∀ w', w' = (w2.setCell ⟨q, 10, none⟩ (.int .u32 (F ||| 2 ^ i : Nat))).setCell ⟨q, 14, none⟩ (.int .i64 (i + 1 : Nat)) → Q (.returned (.bool true)) w') := Lib.hid (fun w' hw => by
          rw [EQ.out]
          refine ⟨w2, HB2.out, ?_⟩
          rw [← hif, flag_hit t i hlt hFn]
          exact ⟨rfl, hw⟩)
        have hf1 : ((flagName i).toList == t.toList) = true := by rw [str_eq, decide_eq_true hFn]
        obtain ⟨hor, _⟩ := or_flag F i hF hlt
        have hkk : i = 0 ∨ i = 1 ∨ i = 2 ∨ i = 3 := by omega
        clear hif hFn
        rcases hkk with rfl | rfl | rfl | rfl
        · have hor2 : bits .or .u32 (F : Int) 1 = ((F ||| 2 ^ 0 : Nat) : Int) := hor
          have HF := Lib.hid (HQ.out _ rfl)
          clear hor HQ
          go_wp2_with fail
          first | exact HF.out | (go_ret; exact HF.out)
        · have hor2 : bits .or .u32 (F : Int) 2 = ((F ||| 2 ^ 1 : Nat) : Int) := hor
          have HF := Lib.hid (HQ.out _ rfl)
          clear hor HQ
          go_wp2_with fail
          first | exact HF.out | (go_ret; exact HF.out)
        · have hor2 : bits .or .u32 (F : Int) 4 = ((F ||| 2 ^ 2 : Nat) : Int) := hor
          have HF := Lib.hid (HQ.out _ rfl)
          clear hor HQ
          go_wp2_with fail
          first | exact HF.out | (go_ret; exact HF.out)
        · have hor2 : bits .or .u32 (F : Int) 8 = ((F ||| 2 ^ 3 : Nat) : Int) := hor
          have HF := Lib.hid (HQ.out _ rfl)
          clear hor HQ
          go_wp2_with fail
          first | exact HF.out | (go_ret; exact HF.out)
      · have hf1 : ((flagName i).toList == t.toList) = false := by rw [str_eq, decide_eq_false hFn]
        have HIF := Lib.hid (show flagFrom t (i + 1) = flagFrom t fl by rw [← flag_miss t i hlt hFn]; exact hif)
        obtain ⟨N, eN⟩ : ∃ N, N = flagName i := ⟨_, rfl⟩
        rw [← eN] at hc hf1
        clear hif hFn eN
        go_wp2_with fail
        go_round
        case rel => exact ⟨i + 1, by go_num, by omega, by omega, HIF.out⟩
        case measure => simp [intOf]; omega
    · obtain rfl : i = 4 := by omega
      rw [flag_end] at hif
      have HF := Lib.hid (show Q (.returned (.bool false)) w2 by
        rw [EQ.out]
        refine ⟨w2, HB2.out, ?_⟩
        rw [← hif]
        exact ⟨rfl, rfl⟩)
      clear hif
      go_wp2_with fail
      first | exact HF.out | (go_ret; exact HF.out)
end Go.Proofs.YtbfebfeliddpnaaDoor
