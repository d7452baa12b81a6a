/- The reference's bitmap: a range set, and its words. -/
import Derived.Test.YtbfebfeliddpnaaDoorRnC
import Derived.Outline
namespace Go.Proofs.YtbfebfeliddpnaaDoor
open Go.RowKit
set_option linter.unusedVariables false
set_option linter.unusedSimpArgs false
structure BmG (w : World) (m g n : Nat) (f : Nat → Bool) : Prop where
  blk : Blk w m 176 #[.slice (some ⟨g, 0, none⟩) n n]
  row : RowV 4 w g n (fun i => .bool (f i))
  ne : m ≠ g
theorem BmG.drewN {w : World} {m g n : Nat} {f : Nat → Bool} (h : BmG w m g n f) (k : Nat) : BmG (w.drewN k) m g n f := ⟨h.blk, h.row, h.ne⟩
theorem BmR.bmG {lo : Nat} {w : World} {m n : Nat} {f : Nat → Bool} (h : BmR lo w m n f) : ∃ g, BmG w m g n f ∧ lo ≤ m ∧ lo ≤ g := by
  obtain ⟨g, h1, h2, h3, h4⟩ := h
  refine ⟨g, ⟨h1, h2, ?_⟩, h3, h4⟩
  rintro rfl
  obtain ⟨cur, h5, _⟩ := h2
  unfold Blk at h1 h5
  rw [h1] at h5
  simp only [Option.some.injEq, Obj.cells.injEq] at h5
  exact absurd h5.2.1 (by decide)
set_option maxHeartbeats 2000000 in
set_option maxRecDepth 100000 in
theorem ranged_ok (w : World) (m g n a c : Nat) (f : Nat → Bool) (h : BmG w m g n f) (hac : a + c ≤ n) (hn : n ≤ 65536) :
    Calls Tryd.prog 138 #[.pointer (some ⟨m, 0, none⟩), .int .i64 (a : Nat), .int .i64 (c : Nat)] w fun e w' => e = .returned (.int .i64 0) ∧ ∃ k, w' = w.drewN k := by
  have c0 : w.cell? ⟨m, 0, none⟩ = some (.slice (some ⟨g, 0, none⟩) n n) := h.blk.cell 0
  have d1 : decide ((c : Int) < 0) = false := decide_eq_false (by omega)
  have d2 : decide ((a : Int) < 0) = false := decide_eq_false (by omega)
  have d3 : decide (n < a) = false := decide_eq_false (by omega)
  have d4 : decide ((n : Int) - a < c) = false := decide_eq_false (by omega)
  have d5 : decide (n < c + a) = false := decide_eq_false (by omega)
  have ha : a ≤ n := by omega
  clear h
  go_enter Tryd.func138, Tryd.ntmps138
  go_wp2_with fail
  first | exact ⟨rfl, 0, rfl⟩ | (go_ret; exact ⟨rfl, 0, rfl⟩) | (go_quiet (fail); go_wp2_with fail; first | exact ⟨rfl, _, rfl⟩ | (go_ret; exact ⟨rfl, _, rfl⟩))
def SetQ (w : World) (m g n a c : Nat) (f : Nat → Bool) (e : Ending) (w' : World) : Prop :=
  ∃ N : Nat, e = .returned (.tuple #[.int .i64 (N : Nat), .int .i64 0]) ∧ BmG w' m g n (runTo f a (a + c)) ∧ OnlyP (fun b => b = g) w w'
theorem runTo_at (f : Nat → Bool) (a i : Nat) : runTo f a i i = f i := by
  unfold runTo; rw [decide_eq_false (by omega : ¬ i < i)]; simp
theorem runTo_next (f : Nat → Bool) (a i j : Nat) (h : a ≤ i) : runTo f a (i + 1) j = if j = i then true else runTo f a i j := by
  unfold runTo
  by_cases e : j = i
  · rw [if_pos e, e, decide_eq_true h, decide_eq_true (by omega : i < i + 1)]; simp
  · rw [if_neg e]
    by_cases h2 : j < i
    · rw [decide_eq_true h2, decide_eq_true (by omega : j < i + 1)]
    · rw [decide_eq_false h2, decide_eq_false (by omega : ¬ j < i + 1)]
set_option maxHeartbeats 4000000 in
set_option maxRecDepth 100000 in
theorem putRange_ok (w : World) (m g n a c : Nat) (f : Nat → Bool) (h : BmG w m g n f) (hac : a + c ≤ n) (hn : n ≤ 65536) :
    Calls Tryd.prog 130 #[.pointer (some ⟨m, 0, none⟩), .int .i64 (a : Nat), .int .i64 (c : Nat), .bool true] w (SetQ w m g n a c f) := by
  obtain ⟨Q, eQ⟩ : ∃ Q, Q = SetQ w m g n a c f := ⟨_, rfl⟩
  rw [← eQ]
  have EQ := Lib.hid eQ
  have HRG := Lib.hid (ranged_ok w m g n a c f h hac hn)
  have H := Lib.hid h
  clear eQ h
  go_enter Tryd.func130, Tryd.ntmps130
  go_wp2_with fail
  refine HRG.out.mono ?_
  rintro e w1 ⟨rfl, k, rfl⟩
  have HB := Lib.hid (H.out.drewN k)
  have HO := Lib.hid ((OnlyP.refl (fun b => b = g) w).drewN k)
  obtain ⟨w1, ew⟩ : ∃ w1, w1 = w.drewN k := ⟨_, rfl⟩
  rw [← ew] at HB HO ⊢
  clear ew HRG H
  go_wp2_with fail
  go_loopw [11, 12] (fun nv iv wr => ∃ (i N : Nat), nv = .int .i64 (N : Nat) ∧ iv = .int .i64 (i : Nat) ∧ a ≤ i ∧ i ≤ a + c ∧ N ≤ i ∧ BmG wr m g n (runTo f a i) ∧ OnlyP (fun b => b = g) w wr) (fun _ iv _ => a + c - (intOf iv).toNat)
  case atStart => exact ⟨a, 0, rfl, rfl, Nat.le_refl _, by omega, by omega, by rw [runTo_none]; exact HB.out, HO.out⟩
  case round =>
    obtain ⟨i, N, rfl, rfl, hi1, hi2, hN, hb, ho⟩ := hrel
    clear HB HO
    have hs : (a : Int) + (c : Int) = ((a + c : Nat) : Int) := by omega
    by_cases hlt : i < a + c
    · have c0 : wr.cell? ⟨m, 0, none⟩ = some (.slice (some ⟨g, 0, none⟩) n n) := hb.blk.cell 0
      have c1 := hb.row.cell i (by omega)
      have f1 := hb.row.free i
      rw [runTo_at] at c1
      have hst : BmG (wr.setCell ⟨g, i, none⟩ (.bool true)) m g n (runTo f a (i + 1)) :=
        ⟨hb.blk.far (p := ⟨g, i, none⟩) hb.ne _, (hb.row.put i (.bool true)).congr (fun j hj => by
          rw [runTo_next f a i j hi1]
          by_cases e : j = i
          · rw [if_pos e, if_pos e]
          · rw [if_neg e, if_neg e]), hb.ne⟩
      have HST := Lib.hid hst
      have HOS := Lib.hid (ho.set (p := ⟨g, i, none⟩) (.inl rfl) (.bool true))
      have d1 : decide ((i : Int) < a + c) = true := decide_eq_true (by omega)
      have hin : i < n := by omega
      obtain ⟨b, eb⟩ : ∃ b, b = f i := ⟨_, rfl⟩
      rw [← eb] at c1
      clear hst hb ho eb hs
      cases b
      · go_wp2_with fail
        first
        | (go_roundw
           case rel => exact ⟨i + 1, N + 1, by go_num, by go_num, by omega, by omega, by omega, HST.out, HOS.out⟩
           case measure => simp [intOf]; omega)
      · go_wp2_with fail
        first
        | (go_roundw
           case rel => exact ⟨i + 1, N, by first | rfl | go_num, by go_num, by omega, by omega, by omega, HST.out, HOS.out⟩
           case measure => simp [intOf]; omega)
    · obtain rfl : i = a + c := by omega
      have HF := Lib.hid (show Q (.returned (.tuple #[.int .i64 (N : Nat), .int .i64 0])) wr by rw [EQ.out]; exact ⟨N, rfl, hb, ho⟩)
      have d1 : decide (((a + c : Nat) : Int) < a + c) = false := decide_eq_false (by omega)
      clear hb ho hs
      go_wp2_with fail
      first | exact HF.out | (go_ret2; exact HF.out)
set_option maxHeartbeats 1000000 in
theorem setRange_ok (w : World) (m g n a c : Nat) (f : Nat → Bool) (h : BmG w m g n f) (hac : a + c ≤ n) (hn : n ≤ 65536) :
    Calls Tryd.prog 104 #[.pointer (some ⟨m, 0, none⟩), .int .i64 (a : Nat), .int .i64 (c : Nat)] w (SetQ w m g n a c f) := by
  have HC := Lib.hid (putRange_ok w m g n a c f h hac hn)
  obtain ⟨Q, eQ⟩ : ∃ Q, Q = SetQ w m g n a c f := ⟨_, rfl⟩
  rw [← eQ]
  have EQ := Lib.hid eQ
  clear eQ h
  go_enter Tryd.func104, Tryd.ntmps104
  go_wp2_with fail
  refine HC.out.mono ?_
  rintro e w1 ⟨N, rfl, hq⟩
  have HF := Lib.hid (show Q (.returned (.tuple #[.int .i64 (N : Nat), .int .i64 0])) w1 by rw [EQ.out]; exact ⟨N, rfl, hq⟩)
  clear hq
  go_wp2_with fail
  first | exact HF.out | (go_ret2; exact HF.out)
end Go.Proofs.YtbfebfeliddpnaaDoor
