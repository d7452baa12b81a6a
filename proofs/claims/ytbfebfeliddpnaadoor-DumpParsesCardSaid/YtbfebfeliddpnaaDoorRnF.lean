/- The reference's reader: its parts device and gens. -/
import Derived.Test.YtbfebfeliddpnaaDoorRnE
import Derived.Outline
namespace Go.Proofs.YtbfebfeliddpnaaDoor
open Go.RowKit
set_option linter.unusedVariables false
set_option linter.unusedSimpArgs false
/-- A call that lays one cell of block q (or none), and answers b. -/
def LayQ (w : World) (q : Nat) (c : Option (Nat × Value)) (b : Bool) (e : Ending) (w' : World) : Prop :=
  e = .returned (.bool b) ∧ w' = (match c with | some (i, v) => w.setCell ⟨q, i, none⟩ v | none => w)
def devB (k n : Nat) : Bool := match k with
  | 0 => decide (1 ≤ n) && decide (n ≤ 4096)
  | 1 => okSz n
  | 2 => decide (1 ≤ n) && decide (n ≤ 16)
  | _ => false
def devC (k n : Nat) : Option (Nat × Value) := if k < 3 then some (3 + k, .int .i64 (n : Nat)) else none
set_option maxHeartbeats 1000000 in
set_option maxRecDepth 100000 in
theorem device_0 (w : World) (q n : Nat) (hn : n ≤ 4611686018427387904) {o : Int} (hc : w.cell? ⟨q, 3, none⟩ = some (.int .i64 o)) (hf : w.frozen? ⟨q, 3, none⟩ = false) :
    Calls Tryd.prog 68 #[.pointer (some ⟨q, 0, none⟩), .int .i64 0, .int .i64 (n : Nat)] w (LayQ w q (devC 0 n) (devB 0 n)) := by
  obtain ⟨Q, eQ⟩ : ∃ Q, Q = LayQ w q (devC 0 n) (devB 0 n) := ⟨_, rfl⟩
  rw [← eQ]
  have HF : Hid (∀ b, devB 0 n = b → Q (.returned (.bool b)) (w.setCell ⟨q, 3, none⟩ (.int .i64 (n : Nat)))) := Lib.hid (fun b hb => by rw [eQ, ← hb]; exact ⟨rfl, rfl⟩)
  clear eQ
  by_cases h1 : 1 ≤ n
  · by_cases h2 : n ≤ 4096
    · have HF2 := Lib.hid (HF.out true (by simp only [devB]; rw [decide_eq_true h1, decide_eq_true h2]; rfl))
      have d1 : decide ((1 : Int) ≤ n) = true := decide_eq_true (by omega)
      have d2 : decide ((n : Int) ≤ 4096) = true := decide_eq_true (by omega)
      clear HF h1 h2
      go_enter Tryd.func68, Tryd.ntmps68
      go_wp2_with fail
      first | exact HF2.out | (go_ret; exact HF2.out)
    · have HF2 := Lib.hid (HF.out false (by simp only [devB]; rw [decide_eq_false h2, Bool.and_false]))
      have d1 : decide ((1 : Int) ≤ n) = true := decide_eq_true (by omega)
      have d2 : decide ((n : Int) ≤ 4096) = false := decide_eq_false (by omega)
      clear HF h1 h2
      go_enter Tryd.func68, Tryd.ntmps68
      go_wp2_with fail
      first | exact HF2.out | (go_ret; exact HF2.out)
  · have HF2 := Lib.hid (HF.out false (by simp only [devB]; rw [decide_eq_false h1, Bool.false_and]))
    have d1 : decide ((1 : Int) ≤ n) = false := decide_eq_false (by omega)
    clear HF h1
    go_enter Tryd.func68, Tryd.ntmps68
    go_wp2_with fail
    first | exact HF2.out | (go_ret; exact HF2.out)
set_option maxHeartbeats 1000000 in
set_option maxRecDepth 100000 in
theorem device_1 (w : World) (q n : Nat) (hn : n ≤ 4611686018427387904) {o : Int} (hc : w.cell? ⟨q, 4, none⟩ = some (.int .i64 o)) (hf : w.frozen? ⟨q, 4, none⟩ = false) :
    Calls Tryd.prog 68 #[.pointer (some ⟨q, 0, none⟩), .int .i64 1, .int .i64 (n : Nat)] w (LayQ w q (devC 1 n) (devB 1 n)) := by
  obtain ⟨Q, eQ⟩ : ∃ Q, Q = LayQ w q (devC 1 n) (devB 1 n) := ⟨_, rfl⟩
  rw [← eQ]
  have HF : Hid (∀ b, devB 1 n = b → Q (.returned (.bool b)) (w.setCell ⟨q, 4, none⟩ (.int .i64 (n : Nat)))) := Lib.hid (fun b hb => by rw [eQ, ← hb]; exact ⟨rfl, rfl⟩)
  clear eQ
  by_cases h : n = 128 ∨ n = 256 ∨ n = 512 ∨ n = 1024
  · have HF2 := Lib.hid (HF.out true (by simp only [devB]; unfold okSz; simp only [Bool.or_eq_true, decide_eq_true_eq]; omega))
    clear HF
    rcases h with rfl | rfl | rfl | rfl
    all_goals
      go_enter Tryd.func68, Tryd.ntmps68
      go_wp2_with fail
      first | exact HF2.out | (go_ret; exact HF2.out)
  · have HF2 := Lib.hid (HF.out false (by simp only [devB]; unfold okSz; simp only [Bool.or_eq_false_iff, decide_eq_false_iff_not]; omega))
    have g1 : ((n : Int) == 128) = false := by simp; omega
    have g2 : ((n : Int) == 256) = false := by simp; omega
    have g3 : ((n : Int) == 512) = false := by simp; omega
    have g4 : ((n : Int) == 1024) = false := by simp; omega
    clear HF h
    go_enter Tryd.func68, Tryd.ntmps68
    go_wp2_with fail
    first | exact HF2.out | (go_ret; exact HF2.out)
set_option maxHeartbeats 1000000 in
set_option maxRecDepth 100000 in
theorem device_2 (w : World) (q n : Nat) (hn : n ≤ 4611686018427387904) {o : Int} (hc : w.cell? ⟨q, 5, none⟩ = some (.int .i64 o)) (hf : w.frozen? ⟨q, 5, none⟩ = false) :
    Calls Tryd.prog 68 #[.pointer (some ⟨q, 0, none⟩), .int .i64 2, .int .i64 (n : Nat)] w (LayQ w q (devC 2 n) (devB 2 n)) := by
  obtain ⟨Q, eQ⟩ : ∃ Q, Q = LayQ w q (devC 2 n) (devB 2 n) := ⟨_, rfl⟩
  rw [← eQ]
  have HF : Hid (∀ b, devB 2 n = b → Q (.returned (.bool b)) (w.setCell ⟨q, 5, none⟩ (.int .i64 (n : Nat)))) := Lib.hid (fun b hb => by rw [eQ, ← hb]; exact ⟨rfl, rfl⟩)
  clear eQ
  by_cases h1 : 1 ≤ n
  · by_cases h2 : n ≤ 16
    · have HF2 := Lib.hid (HF.out true (by simp only [devB]; rw [decide_eq_true h1, decide_eq_true h2]; rfl))
      have d1 : decide ((1 : Int) ≤ n) = true := decide_eq_true (by omega)
      have d2 : decide ((n : Int) ≤ 16) = true := decide_eq_true (by omega)
      clear HF h1 h2
      go_enter Tryd.func68, Tryd.ntmps68
      go_wp2_with fail
      first | exact HF2.out | (go_ret; exact HF2.out)
    · have HF2 := Lib.hid (HF.out false (by simp only [devB]; rw [decide_eq_false h2, Bool.and_false]))
      have d1 : decide ((1 : Int) ≤ n) = true := decide_eq_true (by omega)
      have d2 : decide ((n : Int) ≤ 16) = false := decide_eq_false (by omega)
      clear HF h1 h2
      go_enter Tryd.func68, Tryd.ntmps68
      go_wp2_with fail
      first | exact HF2.out | (go_ret; exact HF2.out)
  · have HF2 := Lib.hid (HF.out false (by simp only [devB]; rw [decide_eq_false h1, Bool.false_and]))
    have d1 : decide ((1 : Int) ≤ n) = false := decide_eq_false (by omega)
    clear HF h1
    go_enter Tryd.func68, Tryd.ntmps68
    go_wp2_with fail
    first | exact HF2.out | (go_ret; exact HF2.out)
set_option maxHeartbeats 1000000 in
set_option maxRecDepth 100000 in
theorem device_no (w : World) (q k n : Nat) (hk : 3 ≤ k) (hk2 : k ≤ 1000000) (hn : n ≤ 4611686018427387904) :
    Calls Tryd.prog 68 #[.pointer (some ⟨q, 0, none⟩), .int .i64 (k : Nat), .int .i64 (n : Nat)] w (LayQ w q (devC k n) (devB k n)) := by
  obtain ⟨Q, eQ⟩ : ∃ Q, Q = LayQ w q (devC k n) (devB k n) := ⟨_, rfl⟩
  rw [← eQ]
  have HF := Lib.hid (show Q (.returned (.bool false)) w by
    rw [eQ]
    unfold devC
    rw [if_neg (by omega)]
    exact ⟨by
      match k, hk with
      | k + 3, _ => rfl, rfl⟩)
  have g0 : ((k : Int) == 0) = false := by simp; omega
  have g1 : ((k : Int) == 1) = false := by simp; omega
  have g2 : ((k : Int) == 2) = false := by simp; omega
  clear eQ
  go_enter Tryd.func68, Tryd.ntmps68
  go_wp2_with fail
  first | exact HF.out | (go_ret; exact HF.out)
/-- What gens has done: a number was laid, or none could be. -/
def GensQ (w : World) (q k : Nat) (t : ByteArray) (e : Ending) (w' : World) : Prop :=
  ∃ (v : Nat) (b : Bool), (k < 4 → idOf t = if b = true then some v else none) ∧ LayQ w q (if k < 4 then some (6 + k, .int .u64 (v : Nat)) else none) (if k < 4 then b else false) e w'
set_option maxHeartbeats 1000000 in
set_option maxRecDepth 100000 in
theorem gens_0 (w : World) (q : Nat) (t : ByteArray) (hs : t.size ≤ 65536) {o : Int} (hc : w.cell? ⟨q, 6, none⟩ = some (.int .u64 o)) (hf : w.frozen? ⟨q, 6, none⟩ = false) :
    Calls Tryd.prog 69 #[.pointer (some ⟨q, 0, none⟩), .int .i64 0, .string t] w (GensQ w q 0 t) := by
  obtain ⟨Q, eQ⟩ : ∃ Q, Q = GensQ w q 0 t := ⟨_, rfl⟩
  rw [← eQ]
  have EQ := Lib.hid eQ
  have HC := Lib.hid (rident_ok w t hs)
  clear eQ
  go_enter Tryd.func69, Tryd.ntmps69
  go_wp2_with fail
  refine HC.out.mono ?_
  rintro e w1 ⟨rfl, v, b, rfl, hv⟩
  have HF := Lib.hid (show Q (.returned (.bool b)) (w.setCell ⟨q, 6, none⟩ (.int .u64 (v : Nat))) by rw [EQ.out]; exact ⟨v, b, fun _ => hv, rfl, rfl⟩)
  clear hv HC
  go_wp2_with fail
  first | exact HF.out | (go_ret; exact HF.out)
set_option maxHeartbeats 1000000 in
set_option maxRecDepth 100000 in
theorem gens_1 (w : World) (q : Nat) (t : ByteArray) (hs : t.size ≤ 65536) {o : Int} (hc : w.cell? ⟨q, 7, none⟩ = some (.int .u64 o)) (hf : w.frozen? ⟨q, 7, none⟩ = false) :
    Calls Tryd.prog 69 #[.pointer (some ⟨q, 0, none⟩), .int .i64 1, .string t] w (GensQ w q 1 t) := by
  obtain ⟨Q, eQ⟩ : ∃ Q, Q = GensQ w q 1 t := ⟨_, rfl⟩
  rw [← eQ]
  have EQ := Lib.hid eQ
  have HC := Lib.hid (rident_ok w t hs)
  clear eQ
  go_enter Tryd.func69, Tryd.ntmps69
  go_wp2_with fail
  refine HC.out.mono ?_
  rintro e w1 ⟨rfl, v, b, rfl, hv⟩
  have HF := Lib.hid (show Q (.returned (.bool b)) (w.setCell ⟨q, 7, none⟩ (.int .u64 (v : Nat))) by rw [EQ.out]; exact ⟨v, b, fun _ => hv, rfl, rfl⟩)
  clear hv HC
  go_wp2_with fail
  first | exact HF.out | (go_ret; exact HF.out)
set_option maxHeartbeats 1000000 in
set_option maxRecDepth 100000 in
theorem gens_2 (w : World) (q : Nat) (t : ByteArray) (hs : t.size ≤ 65536) {o : Int} (hc : w.cell? ⟨q, 8, none⟩ = some (.int .u64 o)) (hf : w.frozen? ⟨q, 8, none⟩ = false) :
    Calls Tryd.prog 69 #[.pointer (some ⟨q, 0, none⟩), .int .i64 2, .string t] w (GensQ w q 2 t) := by
  obtain ⟨Q, eQ⟩ : ∃ Q, Q = GensQ w q 2 t := ⟨_, rfl⟩
  rw [← eQ]
  have EQ := Lib.hid eQ
  have HC := Lib.hid (rident_ok w t hs)
  clear eQ
  go_enter Tryd.func69, Tryd.ntmps69
  go_wp2_with fail
  refine HC.out.mono ?_
  rintro e w1 ⟨rfl, v, b, rfl, hv⟩
  have HF := Lib.hid (show Q (.returned (.bool b)) (w.setCell ⟨q, 8, none⟩ (.int .u64 (v : Nat))) by rw [EQ.out]; exact ⟨v, b, fun _ => hv, rfl, rfl⟩)
  clear hv HC
  go_wp2_with fail
  first | exact HF.out | (go_ret; exact HF.out)
set_option maxHeartbeats 1000000 in
set_option maxRecDepth 100000 in
theorem gens_3 (w : World) (q : Nat) (t : ByteArray) (hs : t.size ≤ 65536) {o : Int} (hc : w.cell? ⟨q, 9, none⟩ = some (.int .u64 o)) (hf : w.frozen? ⟨q, 9, none⟩ = false) :
    Calls Tryd.prog 69 #[.pointer (some ⟨q, 0, none⟩), .int .i64 3, .string t] w (GensQ w q 3 t) := by
  obtain ⟨Q, eQ⟩ : ∃ Q, Q = GensQ w q 3 t := ⟨_, rfl⟩
  rw [← eQ]
  have EQ := Lib.hid eQ
  have HC := Lib.hid (rident_ok w t hs)
  clear eQ
  go_enter Tryd.func69, Tryd.ntmps69
  go_wp2_with fail
  refine HC.out.mono ?_
  rintro e w1 ⟨rfl, v, b, rfl, hv⟩
  have HF := Lib.hid (show Q (.returned (.bool b)) (w.setCell ⟨q, 9, none⟩ (.int .u64 (v : Nat))) by rw [EQ.out]; exact ⟨v, b, fun _ => hv, rfl, rfl⟩)
  clear hv HC
  go_wp2_with fail
  first | exact HF.out | (go_ret; exact HF.out)
set_option maxHeartbeats 1000000 in
set_option maxRecDepth 100000 in
theorem gens_no (w : World) (q k : Nat) (t : ByteArray) (hk : 4 ≤ k) (hk2 : k ≤ 1000000) (hs : t.size ≤ 65536) :
    Calls Tryd.prog 69 #[.pointer (some ⟨q, 0, none⟩), .int .i64 (k : Nat), .string t] w (GensQ w q k t) := by
  obtain ⟨Q, eQ⟩ : ∃ Q, Q = GensQ w q k t := ⟨_, rfl⟩
  rw [← eQ]
  have EQ := Lib.hid eQ
  have HC := Lib.hid (rident_ok w t hs)
  have HF := Lib.hid (show Q (.returned (.bool false)) w by
    rw [EQ.out]
    refine ⟨0, false, fun h => by omega, ?_⟩
    rw [if_neg (by omega), if_neg (by omega)]
    exact ⟨rfl, rfl⟩)
  have g0 : ((k : Int) == 0) = false := by simp; omega
  have g1 : ((k : Int) == 1) = false := by simp; omega
  have g2 : ((k : Int) == 2) = false := by simp; omega
  have g3 : ((k : Int) == 3) = false := by simp; omega
  clear eQ
  go_enter Tryd.func69, Tryd.ntmps69
  go_wp2_with fail
  refine HC.out.mono ?_
  rintro e w1 ⟨rfl, v, b, rfl, hv⟩
  clear hv HC
  go_wp2_with fail
  first | exact HF.out | (go_ret; exact HF.out)
end Go.Proofs.YtbfebfeliddpnaaDoor
