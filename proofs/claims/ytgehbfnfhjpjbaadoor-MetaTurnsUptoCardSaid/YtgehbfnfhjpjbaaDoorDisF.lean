/- The disk's small calls: exists, step, writable, refuse, On, Fuse, Waiting, Counts, put. -/
import Derived.Test.YtgehbfnfhjpjbaaDoorDisS
import Derived.Outline
namespace Go.Proofs.YtgehbfnfhjpjbaaDoor
open Go.RowKit
open Go.ChangeMaps
set_option linter.unusedVariables false
set_option linter.unusedSimpArgs false
def DSt.inr (s : DSt) (j : Int) : Prop := 0 ≤ j ∧ j < s.nb
theorem blkD {O : Nat → Prop} {w : World} {d : Nat} {s : DSt} (h : DRep O w d s) : ∃ m c, Blk w d 55 (dArr s m c) := let ⟨m, c, _, _, _, _, _, hx, _⟩ := h; ⟨m, c, hx.blk⟩
set_option maxHeartbeats 1000000 in
set_option maxRecDepth 100000 in
theorem exists_yes (w : World) (d m c : Nat) (s : DSt) (j : Int) (hb : Blk w d 55 (dArr s m c)) (hj : s.inr j) :
    Calls Tryd.prog 22 #[.pointer (some ⟨d, 0, none⟩), .int .i64 j] w fun e w' => e = .returned (.bool true) ∧ w = w' := by
  have c0 : w.cell? ⟨d, 0, none⟩ = some (.int .i64 s.nb) := hb.cell 0
  obtain ⟨h1, h2⟩ := hj
  go_enter Tryd.func22, Tryd.ntmps22
  go_wp2_with fail
  go_ret
  exact ⟨rfl, rfl⟩
set_option maxHeartbeats 1000000 in
set_option maxRecDepth 100000 in
theorem exists_no (w : World) (d m c : Nat) (s : DSt) (j : Int) (hb : Blk w d 55 (dArr s m c)) (hj : ¬ s.inr j) :
    Calls Tryd.prog 22 #[.pointer (some ⟨d, 0, none⟩), .int .i64 j] w fun e w' => e = .returned (.bool false) ∧ w = w' := by
  have c0 : w.cell? ⟨d, 0, none⟩ = some (.int .i64 s.nb) := hb.cell 0
  by_cases h1 : 0 ≤ j
  · have h2 : ¬ j < s.nb := fun h => hj ⟨h1, h⟩
    clear hj
    go_enter Tryd.func22, Tryd.ntmps22
    go_wp2_with fail
    go_ret
    exact ⟨rfl, rfl⟩
  · clear hj
    go_enter Tryd.func22, Tryd.ntmps22
    go_wp2_with fail
    go_ret
    exact ⟨rfl, rfl⟩
def stepS (s : DSt) : DSt := if s.off = true then s else if s.fused = true then (if s.fuse = 0 then { s with off := true } else { s with fuse := s.fuse - 1 }) else s
def stepB (s : DSt) : Bool := if s.off = true then false else if s.fused = true then (if s.fuse = 0 then false else true) else true
theorem stepS_wf {s : DSt} (h : DWf s) : DWf (stepS s) := by
  unfold stepS
  split
  · exact h
  · split
    · split
      · exact ⟨h.nb1, h.nb2, h.sz0, h.sz1, h.dl, h.cl, h.cn, h.f0, h.f1⟩
      · rename_i h0
        exact ⟨h.nb1, h.nb2, h.sz0, h.sz1, h.dl, h.cl, h.cn, by have := h.f0; show 0 ≤ s.fuse - 1; omega, by have := h.f1; show s.fuse - 1 < _; omega⟩
    · exact h
theorem stepS_same (s : DSt) : (stepS s).nb = s.nb ∧ (stepS s).sz = s.sz ∧ (stepS s).dur = s.dur ∧ (stepS s).sp = s.sp ∧ (stepS s).ca = s.ca := by
  unfold stepS
  split
  · exact ⟨rfl, rfl, rfl, rfl, rfl⟩
  · split
    · split <;> exact ⟨rfl, rfl, rfl, rfl, rfl⟩
    · exact ⟨rfl, rfl, rfl, rfl, rfl⟩
/-- Nothing but block d has turned, and no block was made. -/
def OneD (w w1 : World) (d : Nat) : Prop := w1.os = w.os ∧ w1.tape = w.tape ∧ w1.output = w.output ∧ w1.heap.size = w.heap.size ∧ ∀ b, b ≠ d → w1.heap[b]? = w.heap[b]?
theorem OneD.refl (w : World) (d : Nat) : OneD w w d := ⟨rfl, rfl, rfl, rfl, fun _ _ => rfl⟩
theorem OneD.set {w w1 : World} {d : Nat} (h : OneD w w1 d) (i : Nat) (v : Value) : OneD w (w1.setCell ⟨d, i, none⟩ v) d :=
  ⟨h.1, h.2.1, h.2.2.1, by rw [size_setCell]; exact h.2.2.2.1, fun b hb => (Below.heap_setCell w1 ⟨d, i, none⟩ v b hb).trans (h.2.2.2.2 b hb)⟩
theorem OneD.only {O : Nat → Prop} {w w1 : World} {d : Nat} (h : OneD w w1 d) (hO : O d) : OnlyP O w w1 := ⟨h.1, h.2.1, h.2.2.1, Nat.le_of_eq h.2.2.2.1.symm, fun b hb hn => h.2.2.2.2 b (fun e => hn (e ▸ hO))⟩
set_option maxHeartbeats 2000000 in
set_option maxRecDepth 100000 in
theorem step_blk (w : World) (d m c : Nat) (s : DSt) (hb : Blk w d 55 (dArr s m c)) (hw : DWf s) :
    Calls Tryd.prog 19 #[.pointer (some ⟨d, 0, none⟩)] w fun e w' => e = .returned (.bool (stepB s)) ∧ OneD w w' d ∧ Blk w' d 55 (dArr (stepS s) m c) := by
  have c4 : w.cell? ⟨d, 4, none⟩ = some (.bool s.off) := hb.cell 4
  have c5 : w.cell? ⟨d, 5, none⟩ = some (.bool s.fused) := hb.cell 5
  have c6 : w.cell? ⟨d, 6, none⟩ = some (.int .i64 s.fuse) := hb.cell 6
  have f4 := hb.free 4
  have f6 := hb.free 6
  have g0 := hw.f0
  have g1 := hw.f1
  have e4 := hb.set 4 (.bool true)
  have e6 := hb.set 6 (.int .i64 (s.fuse - 1))
  have HB := Lib.hid hb
  have E4 := Lib.hid e4
  have E6 := Lib.hid e6
  have ES : Hid (stepS s = stepS s ∧ stepB s = stepB s) := Lib.hid ⟨rfl, rfl⟩
  clear hb e4 e6 hw
  by_cases ho : s.off = true
  · have HS := Lib.hid (show stepS s = s ∧ stepB s = false by unfold stepS stepB; rw [if_pos ho, if_pos ho]; exact ⟨rfl, rfl⟩)
    rw [ho] at c4
    clear ho
    go_enter Tryd.func19, Tryd.ntmps19
    go_wp2_with fail
    go_ret
    exact ⟨by rw [HS.out.2]; rfl, OneD.refl _ _, by rw [HS.out.1]; exact HB.out⟩
  · have ho' : s.off = false := by simpa using ho
    rw [ho'] at c4
    by_cases hf : s.fused = true
    · rw [hf] at c5
      by_cases h0 : s.fuse = 0
      · have HS := Lib.hid (show stepS s = { s with off := true } ∧ stepB s = false by unfold stepS stepB; rw [if_neg ho, if_neg ho, if_pos hf, if_pos hf, if_pos h0, if_pos h0]; exact ⟨rfl, rfl⟩)
        have t0 : (s.fuse == 0) = true := by simp [h0]
        clear ho ho' hf h0
        go_enter Tryd.func19, Tryd.ntmps19
        go_wp2_with fail
        go_ret
        exact ⟨by rw [HS.out.2]; rfl, (OneD.refl _ _).set _ _, by rw [HS.out.1]; exact E4.out⟩
      · have HS := Lib.hid (show stepS s = { s with fuse := s.fuse - 1 } ∧ stepB s = true by unfold stepS stepB; rw [if_neg ho, if_neg ho, if_pos hf, if_pos hf, if_neg h0, if_neg h0]; exact ⟨rfl, rfl⟩)
        have t0 : (s.fuse == 0) = false := by simp [h0]
        clear ho ho' hf h0
        go_enter Tryd.func19, Tryd.ntmps19
        go_wp2_with fail
        go_ret
        exact ⟨by rw [HS.out.2]; rfl, (OneD.refl _ _).set _ _, by rw [HS.out.1]; exact E6.out⟩
    · have hf' : s.fused = false := by simpa using hf
      rw [hf'] at c5
      have HS := Lib.hid (show stepS s = s ∧ stepB s = true by unfold stepS stepB; rw [if_neg ho, if_neg ho, if_neg hf, if_neg hf]; exact ⟨rfl, rfl⟩)
      clear ho ho' hf hf'
      go_enter Tryd.func19, Tryd.ntmps19
      go_wp2_with fail
      go_ret
      exact ⟨by rw [HS.out.2]; rfl, OneD.refl _ _, by rw [HS.out.1]; exact HB.out⟩
open Classical in
/-- What writable tells. -/
noncomputable def wrE (s : DSt) (j : Int) (n : Nat) : Int := if s.inr j then (if n = s.sz then 0 else 3) else 2
set_option maxHeartbeats 1000000 in
set_option maxRecDepth 100000 in
theorem writable_ok (w : World) (d m c : Nat) (s : DSt) (j : Int) (A : Option Addr) (n cp : Nat) (hb : Blk w d 55 (dArr s m c)) :
    Calls Tryd.prog 17 #[.pointer (some ⟨d, 0, none⟩), .int .i64 j, .slice A n cp] w fun e w' => e = .returned (.int .i64 (wrE s j n)) ∧ w = w' := by
  have c1 : w.cell? ⟨d, 1, none⟩ = some (.int .i64 s.sz) := hb.cell 1
  by_cases hj : s.inr j
  · have hex := exists_yes w d m c s j hb hj
    by_cases hn : n = s.sz
    · have HW := Lib.hid (show wrE s j n = 0 by unfold wrE; rw [if_pos hj, if_pos hn])
      have t0 : ((n : Int) != (s.sz : Int)) = false := by simp [hn]
      have HEX := Lib.hid hex
      clear hex hn hj hb
      go_enter Tryd.func17, Tryd.ntmps17
      go_wp2_with (go_at_call 22; with_reducible refine HEX.out.mono ?_; rintro e w' ⟨rfl, rfl⟩)
      go_ret
      exact ⟨by rw [HW.out]; rfl, rfl⟩
    · have HW := Lib.hid (show wrE s j n = 3 by unfold wrE; rw [if_pos hj, if_neg hn])
      have t0 : ((n : Int) != (s.sz : Int)) = true := by rw [bne_iff_ne]; omega
      have HEX := Lib.hid hex
      clear hex hn hj hb
      go_enter Tryd.func17, Tryd.ntmps17
      go_wp2_with (go_at_call 22; with_reducible refine HEX.out.mono ?_; rintro e w' ⟨rfl, rfl⟩)
      go_ret
      exact ⟨by rw [HW.out]; rfl, rfl⟩
  · have HEX := Lib.hid (exists_no w d m c s j hb hj)
    have HW := Lib.hid (show wrE s j n = 2 by unfold wrE; rw [if_neg hj])
    clear hj hb
    go_enter Tryd.func17, Tryd.ntmps17
    go_wp2_with (go_at_call 22; with_reducible refine HEX.out.mono ?_; rintro e w' ⟨rfl, rfl⟩)
    go_ret
    exact ⟨by rw [HW.out]; rfl, rfl⟩
def RefQ (w : World) (j e0 : Int) (e : Ending) (w' : World) : Prop := ∃ b, e = .returned (.iface 87 (.pointer (some ⟨b, 0, none⟩))) ∧ w.heap.size ≤ b ∧ Blk w' b 89 #[.int .i64 j, .int .i64 e0] ∧ Below w.heap.size w w'
set_option maxHeartbeats 1000000 in
set_option maxRecDepth 100000 in
theorem refuse_ok (w : World) (j e0 : Int) : Calls Tryd.prog 18 #[.int .i64 j, .int .i64 e0] w (RefQ w j e0) := by
  go_enter Tryd.func18, Tryd.ntmps18
  go_wp2_with fail
  go_ret
  exact ⟨_, rfl, Nat.le_refl _, Blk.newAt _ _ _ _ rfl, (Below.refl _ _).alloc (Nat.le_refl _) _⟩
def fuseS (s : DSt) (n : Int) : DSt := { s with fused := decide (0 ≤ n), fuse := max n 0 }
set_option maxHeartbeats 1000000 in
set_option maxRecDepth 100000 in
theorem fuse_blk (w : World) (d m c : Nat) (s : DSt) (n : Int) (hb : Blk w d 55 (dArr s m c)) :
    Calls Tryd.prog 6 #[.pointer (some ⟨d, 0, none⟩), .int .i64 n] w fun e w' => e = .returned (.tuple #[]) ∧ OneD w w' d ∧ Blk w' d 55 (dArr (fuseS s n) m c) := by
  have c5 : w.cell? ⟨d, 5, none⟩ = some (.bool s.fused) := hb.cell 5
  have c6 : w.cell? ⟨d, 6, none⟩ = some (.int .i64 s.fuse) := hb.cell 6
  have f5 := hb.free 5
  have f6 := hb.free 6
  have e6 := (hb.set 5 (.bool (decide (0 ≤ n)))).set 6 (.int .i64 (max n 0))
  by_cases h0 : 0 ≤ n
  · rw [decide_eq_true h0, Int.max_eq_left h0] at e6
    have HS := Lib.hid (show fuseS s n = { s with fused := true, fuse := n } by unfold fuseS; rw [decide_eq_true h0, Int.max_eq_left h0])
    have E6 := Lib.hid e6
    clear hb e6
    go_enter Tryd.func6, Tryd.ntmps6
    go_wp2_with fail
    go_end0
    exact ⟨rfl, ((OneD.refl _ _).set _ _).set _ _, by rw [HS.out]; exact E6.out⟩
  · rw [decide_eq_false h0, Int.max_eq_right (by omega)] at e6
    have HS := Lib.hid (show fuseS s n = { s with fused := false, fuse := 0 } by unfold fuseS; rw [decide_eq_false h0, Int.max_eq_right (by omega)])
    have E6 := Lib.hid e6
    clear hb e6
    go_enter Tryd.func6, Tryd.ntmps6
    go_wp2_with fail
    go_end0
    exact ⟨rfl, ((OneD.refl _ _).set _ _).set _ _, by rw [HS.out]; exact E6.out⟩
def waitN (s : DSt) (j : Int) : Nat := if 0 ≤ j then (s.ca j.toNat).length else 0
set_option maxHeartbeats 1000000 in
set_option maxRecDepth 100000 in
theorem put_med (w : World) (d m B ms nb sz k : Nat) (f : Nat → Int) (sp : Int → Option Value) (A : Option Addr) (n cp : Nat) (Q : Ending → World → Prop)
    (h : Calls Tryd.prog 52 #[.pointer (some ⟨m, 0, none⟩), .int .i64 k, .slice A n cp] w fun e w' => e = .returned (.tuple #[]) ∧ Q e w') :
    Calls Tryd.prog 21 #[.pointer (some ⟨d, 0, none⟩), .iface 50 (.pointer (some ⟨m, 0, none⟩)), .int .i64 k, .slice A n cp] w Q := by
  have hmeth := meth_lay ⟨m, 0, none⟩
  have H := Lib.hid h
  clear h
  go_enter Tryd.func21, Tryd.ntmps21
  go_wp2_with fail
  refine H.out.mono ?_
  rintro e w1 ⟨rfl, hq⟩
  go_wp2_with fail
  first | exact hq | (go_end0; exact hq)
theorem meth_clay (a : Addr) (w : World) : (method 225 51 (.pointer (some a)) "replica/disk.lay").run Tryd.prog w = .ok (54, .pointer (some a)) w := by kernel_rfl
set_option maxHeartbeats 1000000 in
set_option maxRecDepth 100000 in
theorem put_cac (w : World) (d c k : Nat) (A : Option Addr) (n cp : Nat) (Q : Ending → World → Prop)
    (h : Calls Tryd.prog 54 #[.pointer (some ⟨c, 0, none⟩), .int .i64 k, .slice A n cp] w fun e w' => e = .returned (.tuple #[]) ∧ Q e w') :
    Calls Tryd.prog 21 #[.pointer (some ⟨d, 0, none⟩), .iface 51 (.pointer (some ⟨c, 0, none⟩)), .int .i64 k, .slice A n cp] w Q := by
  have hmeth := meth_clay ⟨c, 0, none⟩
  have H := Lib.hid h
  clear h
  go_enter Tryd.func21, Tryd.ntmps21
  go_wp2_with fail
  refine H.out.mono ?_
  rintro e w1 ⟨rfl, hq⟩
  go_wp2_with fail
  first | exact hq | (go_end0; exact hq)
end Go.Proofs.YtgehbfnfhjpjbaaDoor
