/- The reference's small functions: there, fine, refuse, none, fits, step, Copy; the law's trouble. -/
import Derived.Test.YtigfcoibbmndpaaGreatRdA
import Derived.Outline
namespace Go.Proofs.YtigfcoibbmndpaaGreat
open Go.RowKit
open Go.ChangeMaps
set_option linter.unusedVariables false
set_option linter.unusedSimpArgs false
/-- What trouble tells of an error. -/
def trB (e0 j : Int) : Int := if e0 = 0 then -1 else j
theorem tr_is (v : Value) (w : World) : (Instr.typeAssert (.iface 61 v) 79 61 true).run Tryz.prog w = .ok (.tuple #[v, .bool true]) w := by kernel_rfl
theorem tr_isnt (v : Value) (w : World) : (Instr.typeAssert (.iface 48 v) 79 61 true).run Tryz.prog w = .ok (.tuple #[.pointer none, .bool false]) w := by kernel_rfl
theorem tr_errno (v : Value) (w : World) : (Instr.typeAssert (.iface 48 v) 79 48 true).run Tryz.prog w = .ok (.tuple #[v, .bool true]) w := by kernel_rfl
set_option maxHeartbeats 2000000 in
set_option maxRecDepth 100000 in
theorem trouble_no (w : World) (x : Int) :
    Calls Tryz.prog 33 #[.iface 48 (.int .i64 x)] w fun e w' => e = .returned (.tuple #[.int .i64 x, .int .i64 (-1)]) ∧ ∃ n, w' = w.drewN n := by
  have h1 := tr_isnt (.int .i64 x)
  have h2 := tr_errno (.int .i64 x)
  go_enter Tryz.func33, Tryz.ntmps33
  go_wp2_with fail
  go_ret2
  exact ⟨rfl, 0, rfl⟩
set_option maxHeartbeats 2000000 in
set_option maxRecDepth 100000 in
theorem trouble_ok (lo : Nat) (w : World) (v : Value) (e0 j : Int) (h : AnsE lo w v e0 j) :
    Calls Tryz.prog 33 #[v] w fun e w' => e = .returned (.tuple #[.int .i64 e0, .int .i64 (trB e0 j)]) ∧ ∃ n, w' = w.drewN n := by
  rcases h with ⟨rfl, rfl⟩ | ⟨b, rfl, hb, h0, hblk⟩
  · go_enter Tryz.func33, Tryz.ntmps33
    go_wp2_with fail
    go_ret2
    exact ⟨rfl, 0, rfl⟩
  · have c0 : w.cell? ⟨b, 0, none⟩ = some (.int .i64 j) := hblk.cell 0
    have c1 : w.cell? ⟨b, 1, none⟩ = some (.int .i64 e0) := hblk.cell 1
    have HT := Lib.hid (show trB e0 j = j by unfold trB; rw [if_neg h0])
    have hta := tr_is (.pointer (some ⟨b, 0, none⟩))
    clear hblk hb h0
    go_enter Tryz.func33, Tryz.ntmps33
    go_wp2_with fail
    go_quiet (fail)
    go_wp2_with fail
    go_ret2
    exact ⟨by rw [HT.out]; rfl, _, rfl⟩
set_option maxHeartbeats 1000000 in
set_option maxRecDepth 100000 in
theorem there_yes (w : World) (r : Nat) (s : DSt) (vm vs vc : Value) (wh j : Int) (hb : Blk w r 74 (rArr s vm vs vc wh)) (hj : s.inr j) :
    Calls Tryz.prog 69 #[.pointer (some ⟨r, 0, none⟩), .int .i64 j] w fun e w' => e = .returned (.bool true) ∧ w = w' := by
  have c0 : w.cell? ⟨r, 0, none⟩ = some (.int .i64 s.nb) := hb.cell 0
  obtain ⟨h1, h2⟩ := hj
  clear hb
  go_enter Tryz.func69, Tryz.ntmps69
  go_wp2_with fail
  go_ret
  exact ⟨by first | rfl | (simp; done) | (simp; omega), rfl⟩
set_option maxHeartbeats 1000000 in
set_option maxRecDepth 100000 in
theorem there_no (w : World) (r : Nat) (s : DSt) (vm vs vc : Value) (wh j : Int) (hb : Blk w r 74 (rArr s vm vs vc wh)) (hj : ¬ s.inr j) :
    Calls Tryz.prog 69 #[.pointer (some ⟨r, 0, none⟩), .int .i64 j] w fun e w' => e = .returned (.bool false) ∧ w = w' := by
  have c0 : w.cell? ⟨r, 0, none⟩ = some (.int .i64 s.nb) := hb.cell 0
  clear hb
  by_cases h0 : 0 ≤ j
  · have h1 : (s.nb : Int) ≤ j := by
      rcases Int.lt_or_le j (s.nb : Int) with h | h
      · exact absurd ⟨h0, h⟩ hj
      · exact h
    clear hj
    go_enter Tryz.func69, Tryz.ntmps69
    go_wp2_with fail
    go_ret
    exact ⟨by first | rfl | (simp; done) | (simp; omega), rfl⟩
  · have h1 : j < 0 := by omega
    clear hj h0
    go_enter Tryz.func69, Tryz.ntmps69
    go_wp2_with fail
    go_ret
    exact ⟨by first | rfl | (simp; done) | (simp; omega), rfl⟩
/-- The disk's cells alone have turned: what they are now. -/
def CellQ (w : World) (r : Nat) (s : DSt) (vm vs vc : Value) (wh : Int) (w' : World) : Prop := OneD w w' r ∧ Blk w' r 74 (rArr s vm vs vc wh)
set_option maxHeartbeats 1000000 in
set_option maxRecDepth 100000 in
theorem fine_ok (w : World) (r : Nat) (s : DSt) (vm vs vc : Value) (wh : Int) (hb : Blk w r 74 (rArr s vm vs vc wh)) :
    Calls Tryz.prog 72 #[.pointer (some ⟨r, 0, none⟩)] w fun e w' => e = .returned (.int .i64 0) ∧ CellQ w r s vm vs vc (-1) w' := by
  have c11 : w.cell? ⟨r, 11, none⟩ = some (.int .i64 wh) := hb.cell 11
  have f11 := hb.free 11
  have HB := Lib.hid (show CellQ w r s vm vs vc (-1) (w.setCell ⟨r, 11, none⟩ (.int .i64 (-1))) from ⟨(OneD.refl _ _).set _ _, hb.set 11 (.int .i64 (-1))⟩)
  clear hb
  go_enter Tryz.func72, Tryz.ntmps72
  go_wp2_with fail
  go_ret
  exact ⟨rfl, HB.out⟩
set_option maxHeartbeats 1000000 in
set_option maxRecDepth 100000 in
theorem rrefuse_ok (w : World) (r : Nat) (s : DSt) (vm vs vc : Value) (wh e0 j : Int) (hb : Blk w r 74 (rArr s vm vs vc wh)) :
    Calls Tryz.prog 82 #[.pointer (some ⟨r, 0, none⟩), .int .i64 e0, .int .i64 j] w fun e w' => e = .returned (.int .i64 e0) ∧ CellQ w r s vm vs vc j w' := by
  have c11 : w.cell? ⟨r, 11, none⟩ = some (.int .i64 wh) := hb.cell 11
  have f11 := hb.free 11
  have HB := Lib.hid (show CellQ w r s vm vs vc j (w.setCell ⟨r, 11, none⟩ (.int .i64 j)) from ⟨(OneD.refl _ _).set _ _, hb.set 11 (.int .i64 j)⟩)
  clear hb
  go_enter Tryz.func82, Tryz.ntmps82
  go_wp2_with fail
  go_ret
  exact ⟨rfl, HB.out⟩
set_option maxHeartbeats 1000000 in
set_option maxRecDepth 100000 in
theorem none_ok (w : World) (r : Nat) (s : DSt) (vm vs vc : Value) (wh e0 j : Int) (hb : Blk w r 74 (rArr s vm vs vc wh)) :
    Calls Tryz.prog 70 #[.pointer (some ⟨r, 0, none⟩), .int .i64 e0, .int .i64 j] w fun e w' => e = .returned (.tuple #[.slice none 0 0, .int .i64 e0]) ∧ CellQ w r s vm vs vc j w' := by
  have c11 : w.cell? ⟨r, 11, none⟩ = some (.int .i64 wh) := hb.cell 11
  have f11 := hb.free 11
  have HB := Lib.hid (show CellQ w r s vm vs vc j (w.setCell ⟨r, 11, none⟩ (.int .i64 j)) from ⟨(OneD.refl _ _).set _ _, hb.set 11 (.int .i64 j)⟩)
  clear hb
  go_enter Tryz.func70, Tryz.ntmps70
  go_wp2_with fail
  go_ret2
  exact ⟨rfl, HB.out⟩
set_option maxHeartbeats 1000000 in
set_option maxRecDepth 100000 in
theorem fits_ok (w : World) (r : Nat) (s : DSt) (vm vs vc : Value) (wh j : Int) (A : Option Addr) (n cp : Nat) (hb : Blk w r 74 (rArr s vm vs vc wh)) :
    Calls Tryz.prog 81 #[.pointer (some ⟨r, 0, none⟩), .int .i64 j, .slice A n cp] w fun e w' => e = .returned (.int .i64 (wrE s j n)) ∧ w = w' := by
  have c1 : w.cell? ⟨r, 1, none⟩ = some (.int .i64 s.sz) := hb.cell 1
  by_cases hj : s.inr j
  · have HT := Lib.hid (there_yes w r s vm vs vc wh j hb hj)
    by_cases hn : n = s.sz
    · have HW := Lib.hid (show wrE s j n = 0 by unfold wrE; rw [if_pos hj, if_pos hn])
      have b1 : ((n : Int) == s.sz) = true := by simp; omega
      have b2 : ((n : Int) != s.sz) = false := by simp; omega
      clear hb hj hn
      go_enter Tryz.func81, Tryz.ntmps81
      go_wp2_with fail
      refine HT.out.mono ?_
      rintro e w' ⟨rfl, rfl⟩
      go_wp2_with fail
      go_ret
      exact ⟨by rw [HW.out]; rfl, rfl⟩
    · have HW := Lib.hid (show wrE s j n = 3 by unfold wrE; rw [if_pos hj, if_neg hn])
      have b1 : ((n : Int) == s.sz) = false := by simp; omega
      have b2 : ((n : Int) != s.sz) = true := by simp; omega
      clear hb hj hn
      go_enter Tryz.func81, Tryz.ntmps81
      go_wp2_with fail
      refine HT.out.mono ?_
      rintro e w' ⟨rfl, rfl⟩
      go_wp2_with fail
      go_ret
      exact ⟨by rw [HW.out]; rfl, rfl⟩
  · have HT := Lib.hid (there_no w r s vm vs vc wh j hb hj)
    have HW := Lib.hid (show wrE s j n = 2 by unfold wrE; rw [if_neg hj])
    clear hb hj
    go_enter Tryz.func81, Tryz.ntmps81
    go_wp2_with fail
    refine HT.out.mono ?_
    rintro e w' ⟨rfl, rfl⟩
    go_wp2_with fail
    go_ret
    exact ⟨by rw [HW.out]; rfl, rfl⟩
set_option maxHeartbeats 1000000 in
set_option maxRecDepth 100000 in
theorem rstep_ok (w : World) (r : Nat) (s : DSt) (vm vs vc : Value) (wh : Int) (hb : Blk w r 74 (rArr s vm vs vc wh)) (hf : 0 ≤ s.fuse) (hf1 : s.fuse < 9223372036854775808) :
    Calls Tryz.prog 83 #[.pointer (some ⟨r, 0, none⟩)] w fun e w' => e = .returned (.bool (stepB s)) ∧ CellQ w r (stepS s) vm vs vc wh w' := by
  have c5 : w.cell? ⟨r, 5, none⟩ = some (.bool (!s.off)) := hb.cell 5
  have c6 : w.cell? ⟨r, 6, none⟩ = some (.int .i64 (if s.fused = true then s.fuse else -1)) := hb.cell 6
  have f5 := hb.free 5
  have f6 := hb.free 6
  have h5 := hb.set 5 (.bool false)
  have h6 := hb.set 6 (.int .i64 (s.fuse - 1))
  cases hoff : s.off
  · cases hfd : s.fused
    · have e1 : stepB s = true := by unfold stepB; rw [hoff, hfd]; rfl
      have e2 : stepS s = s := by unfold stepS; rw [hoff, hfd]; rfl
      rw [e1, e2]
      rw [hoff] at c5
      rw [hfd] at c6
      have HB := Lib.hid (show CellQ w r s vm vs vc wh w from ⟨OneD.refl _ _, hb⟩)
      simp only [Bool.not_false, Bool.false_eq_true, if_false] at c5 c6
      clear hb h5 h6 e1 e2 hoff hfd
      go_enter Tryz.func83, Tryz.ntmps83
      go_wp2_with fail
      go_ret
      exact ⟨rfl, HB.out⟩
    · rw [hoff] at c5
      rw [hfd] at c6
      simp only [Bool.not_false, if_true] at c5 c6
      by_cases h0 : s.fuse = 0
      · have e1 : stepB s = false := by unfold stepB; simp [hoff, hfd, h0]
        have e2 : stepS s = { s with off := true } := by unfold stepS; simp [hoff, hfd, h0]
        have HB := Lib.hid (show CellQ w r (stepS s) vm vs vc wh (w.setCell ⟨r, 5, none⟩ (.bool false)) from ⟨(OneD.refl _ _).set _ _, by rw [e2]; exact h5⟩)
        rw [e1]
        rw [h0] at c6
        clear hb h5 h6 e1 e2 hoff hfd h0 hf hf1
        go_enter Tryz.func83, Tryz.ntmps83
        go_wp2_with fail
        go_ret
        exact ⟨rfl, HB.out⟩
      · have e1 : stepB s = true := by unfold stepB; simp [hoff, hfd, h0]
        have e2 : stepS s = { s with fuse := s.fuse - 1 } := by unfold stepS; simp [hoff, hfd, h0]
        have HB := Lib.hid (show CellQ w r (stepS s) vm vs vc wh (w.setCell ⟨r, 6, none⟩ (.int .i64 (s.fuse - 1))) from ⟨(OneD.refl _ _).set _ _, by
          rw [e2]
          have : rArr { s with fuse := s.fuse - 1 } vm vs vc wh = (rArr s vm vs vc wh).setIfInBounds 6 (.int .i64 (s.fuse - 1)) := by unfold rArr; simp [hfd]
          rw [this]; exact h6⟩)
        rw [e1]
        obtain ⟨F, eF⟩ : ∃ F, F = s.fuse := ⟨_, rfl⟩
        rw [← eF] at c6 HB hf hf1 h0
        have t0 : (F == 0) = false := by simp; omega
        have t1 : 0 < F := by omega
        have m1 : IntKind.i64.wrap (F - 1) = F - 1 := IntWalk.i64_in _ (by omega)
        clear hb h5 h6 e1 e2 hoff hfd h0 eF hf hf1
        go_enter Tryz.func83, Tryz.ntmps83
        go_wp2_with fail
        go_ret
        exact ⟨rfl, HB.out⟩
  · have e1 : stepB s = false := by unfold stepB; rw [hoff]; rfl
    have e2 : stepS s = s := by unfold stepS; rw [hoff]; rfl
    rw [e1, e2]
    rw [hoff] at c5
    have HB := Lib.hid (show CellQ w r s vm vs vc wh w from ⟨OneD.refl _ _, hb⟩)
    simp only [Bool.not_true] at c5
    clear hb h5 h6 e1 e2 hoff c6
    go_enter Tryz.func83, Tryz.ntmps83
    go_wp2_with fail
    go_ret
    exact ⟨rfl, HB.out⟩
end Go.Proofs.YtigfcoibbmndpaaGreat
