/- Cut at the first hyphen. -/
import Derived.Test.YtbfebfeliddpnaaDoorPrH
import Derived.Laws.Externs
import Derived.Outline
namespace Go.Proofs.YtbfebfeliddpnaaDoor
open Go.RowKit
set_option linter.unusedVariables false
set_option linter.unusedSimpArgs false
theorem byte_bang (t : ByteArray) (i : Nat) (h : i < t.size) : (t[i]! == (45 : UInt8)) = decide (byteAt t i = 45) := by
  rw [getElem!_pos t i h, byteAt_in t i h, Bool.eq_iff_iff, beq_iff_eq, decide_eq_true_iff]
  constructor
  · intro e; rw [e]; rfl
  · intro e; exact UInt8.toNat_inj.1 e
theorem dash_find (t : ByteArray) : ∀ (n i : Nat), t.size - i = n → i ≤ t.size → dash t i = (List.range' i n).find? fun i => t[i]! == (45 : UInt8)
  | 0, i, hn, hi => by rw [dash, if_neg (by omega)]; rfl
  | n + 1, i, hn, hi => by
    rw [dash, if_pos (by omega), List.range'_succ, List.find?_cons, byte_bang t i (by omega)]
    by_cases h : byteAt t i = 45
    · rw [if_pos h, decide_eq_true h]
    · rw [if_neg h, decide_eq_false h]; exact dash_find t n (i + 1) (by omega) (by omega)
theorem dash_first (t : ByteArray) : firstIdx t 45 = (match dash t 0 with | some k => (k : Int) | none => -1) := by
  unfold firstIdx
  rw [dash_find t t.size 0 (by omega) (by omega), List.range_eq_range']
  cases List.find? (fun i => t[i]! == (45 : UInt8)) (List.range' 0 t.size) <;> rfl
theorem dash_le (t : ByteArray) : ∀ (n i k : Nat), t.size - i = n → dash t i = some k → i ≤ k ∧ k < t.size ∧ byteAt t k = 45
  | 0, i, k, hn, h => by rw [dash, if_neg (by omega)] at h; exact absurd h (by simp)
  | n + 1, i, k, hn, h => by
    rw [dash, if_pos (by omega)] at h
    by_cases hb : byteAt t i = 45
    · rw [if_pos hb] at h; obtain rfl := Option.some.inj h; exact ⟨Nat.le_refl _, by omega, hb⟩
    · rw [if_neg hb] at h; have := dash_le t n (i + 1) k (by omega) h; exact ⟨by omega, this.2⟩
theorem indexByte_run (t : ByteArray) (w : World) : (callFunc 146 #[.string t, .int .u8 45]).run Tryd.prog w = .ok (.value (.int .i64 (firstIdx t 45))) w := by
  rw [run_callFunc_extern (e := Extern.BytealgIndexByte.indexByte) Tryd.func146 (by kernel_rfl) (by kernel_rfl) (by kernel_rfl) (by kernel_rfl), run_indexByte_string]
  rfl
theorem indexByte_ok (t : ByteArray) (w : World) : Calls Tryd.prog 139 #[.string t, .int .u8 45] w fun e w' => e = .returned (.int .i64 (firstIdx t 45)) ∧ w = w' := by
  have hr := fun w => indexByte_run t w
  go_enter Tryd.func139, Tryd.ntmps139
  go_wp2_with fail
  first | exact ⟨rfl, rfl⟩ | (go_ret; exact ⟨rfl, rfl⟩)
set_option maxHeartbeats 2000000 in
theorem index_ok (t : ByteArray) (w : World) : Calls Tryd.prog 132 #[.string t, .string bDash] w fun e w' => e = .returned (.int .i64 (firstIdx t 45)) ∧ w = w' := by
  have hsz : bDash.size = 1 := rfl
  have hix : ∀ w, (Instr.index 9 (.string bDash) (.int .i64 0)).run Tryd.prog w = .ok (.int .u8 45) w := fun w => by
    rw [show (0 : Int) = ((0 : Nat) : Int) from rfl, str_index bDash 0 (by decide) w]
    rfl
  unfold bDash at hix ⊢
  clear hsz
  have HC := Lib.hid (indexByte_ok t w)
  obtain ⟨F, eF⟩ : ∃ F, F = firstIdx t 45 := ⟨_, rfl⟩
  rw [← eF] at HC ⊢
  have EF := Lib.hid eF
  clear eF
  by_cases ht : t = bDash
  · have hF : F = 0 := by
      rw [EF.out, ht, dash_first, dash, if_pos (by decide), if_pos (by decide)]; rfl
    subst hF
    have hxx : ([45] == t.toList) = true := by rw [ht, ByteArray.toList_eq]; rfl
    clear ht HC EF
    go_enter Tryd.func132, Tryd.ntmps132
    go_wp2_with fail
    first | exact ⟨rfl, rfl⟩ | (go_ret; exact ⟨rfl, rfl⟩)
  · have hxx : ([45] == t.toList) = false := by
      have h9 := str_eq bDash t
      rw [decide_eq_false (fun e => ht e.symm), show bDash.toList = [45] from by rw [ByteArray.toList_eq]; rfl] at h9
      exact h9
    clear ht EF
    go_enter Tryd.func132, Tryd.ntmps132
    go_wp2_with fail
    refine HC.out.mono ?_
    rintro e w1 ⟨rfl, rfl⟩
    go_wp2_with fail
    first | exact ⟨rfl, rfl⟩ | (go_ret; exact ⟨rfl, rfl⟩)
def CutQ (w : World) (t : ByteArray) (e : Ending) (w' : World) : Prop :=
  (∃ m, w' = w.drewN m) ∧ e = .returned (match dash t 0 with | some k => .tuple #[.string (t.extract 0 k), .string (t.extract (k + 1) t.size), .bool true] | none => .tuple #[.string t, .string ByteArray.empty, .bool false])
set_option maxHeartbeats 2000000 in
theorem cut1_ok (t : ByteArray) (w : World) (ht : t.size ≤ 65536) : Calls Tryd.prog 106 #[.string t, .string bDash] w (CutQ w t) := by
  have hin := index_ok t w
  rw [dash_first] at hin
  have HC := Lib.hid hin
  clear hin
  obtain ⟨Q, eQ⟩ : ∃ Q, Q = CutQ w t := ⟨_, rfl⟩
  rw [← eQ]
  have EQ := Lib.hid eQ
  have HD := Lib.hid (dash_le t t.size 0)
  clear eQ
  cases hd : dash t 0 with
  | none =>
    rw [hd] at HC
    have HF := Lib.hid (show Q (.returned (.tuple #[.string t, .string ByteArray.empty, .bool false])) w by rw [EQ.out]; exact ⟨⟨0, rfl⟩, by rw [hd]⟩)
    clear hd
    unfold bDash at HC ⊢
    go_enter Tryd.func106, Tryd.ntmps106
    go_wp2_with fail
    refine HC.out.mono ?_
    rintro e w1 ⟨rfl, rfl⟩
    go_wp2_with fail
    first | exact HF.out | (go_ret3; exact HF.out)
  | some k =>
    rw [hd] at HC
    obtain ⟨_, hk, _⟩ := HD.out k (by omega) hd
    have HF : Hid (∀ m, Q (.returned (.tuple #[.string (t.extract 0 k), .string (t.extract (k + 1) t.size), .bool true])) (w.drewN m)) := Lib.hid (fun m => by rw [EQ.out]; exact ⟨⟨m, rfl⟩, by rw [hd]⟩)
    clear hd
    unfold bDash at HC ⊢
    go_enter Tryd.func106, Tryd.ntmps106
    go_wp2_with fail
    refine HC.out.mono ?_
    rintro e w1 ⟨rfl, rfl⟩
    go_wp2_with fail
    go_quiet (fail)
    go_wp2_with fail
    first | exact HF.out _ | (go_ret3; exact HF.out _)
set_option maxHeartbeats 2000000 in
theorem cut_ok (t : ByteArray) (w : World) (ht : t.size ≤ 65536) : Calls Tryd.prog 74 #[.string t, .string bDash] w (CutQ w t) := by
  have HC := Lib.hid (cut1_ok t w ht)
  obtain ⟨Q, eQ⟩ : ∃ Q, Q = CutQ w t := ⟨_, rfl⟩
  rw [← eQ]
  have EQ := Lib.hid eQ
  clear eQ
  have hcase : ∀ e w', CutQ w t e w' → ∃ a b c, e = .returned (.tuple #[.string a, .string b, .bool c]) ∧ Hid (Q e w') := by
    rintro e w' h
    have hQ : Hid (Q e w') := Lib.hid (by rw [EQ.out]; exact h)
    obtain ⟨_, rfl⟩ := h
    cases h9 : dash t 0 with
    | none => rw [h9] at hQ; exact ⟨_, _, _, rfl, hQ⟩
    | some k => rw [h9] at hQ; exact ⟨_, _, _, rfl, hQ⟩
  have HCS := Lib.hid hcase
  clear hcase
  unfold bDash at HC ⊢
  go_enter Tryd.func74, Tryd.ntmps74
  go_wp2_with fail
  refine HC.out.mono ?_
  intro e w1 hq
  obtain ⟨a, b, c, rfl, HF⟩ := HCS.out e w1 hq
  clear hq
  go_wp2_with fail
  first | exact HF.out | (go_ret3; exact HF.out)
end Go.Proofs.YtbfebfeliddpnaaDoor
