/- Which of two slots is chosen: Choose. -/
import Derived.Test.YtgehbfnfhjpjbaaDoorSupJ
namespace Go.Proofs.YtgehbfnfhjpjbaaDoor
open Go.RowKit
set_option linter.unusedVariables false
set_option linter.unusedSimpArgs false
/-- What Choose answers of what Unseal tells of the two. -/
def chF (a b : Sup × Int) : Sup × Int × Int :=
  if a.2 ≠ 0 ∧ b.2 ≠ 0 then (sup0, 0, 54) else if a.2 ≠ 0 then (b.1, 1, 0) else if b.2 ≠ 0 ∨ b.1.sq ≤ a.1.sq then (a.1, 0, 0) else (b.1, 1, 0)
def ChQ (r : Sup × Int × Int) (w : World) (e : Ending) (w' : World) : Prop := e = .returned (.tuple #[.agg r.1.arr, .int .i64 r.2.1, .int .i64 r.2.2]) ∧ Below w.heap.size w w'
theorem ch_results (tmps : Array Value) (w : World) (g : Nat) (s : Sup) (n e : Int) (hp : tmps.getD 4 undef = .pointer (some ⟨g, 0, none⟩)) (hq : tmps.getD 5 undef = .int .i64 n) (hr : tmps.getD 6 undef = .int .i64 e)
    (H2 : Blk w g 27 s.arr) : (results Tryd.f12 tmps).run Tryd.prog w = .ok (.tuple #[.agg s.arr, .int .i64 n, .int .i64 e]) w := by
  have hp' : tmps[4]?.getD undef = .pointer (some ⟨g, 0, none⟩) := by simpa using hp
  have hq' : tmps[5]?.getD undef = .int .i64 n := by simpa using hq
  have hr' : tmps[6]?.getD undef = .int .i64 e := by simpa using hr
  have d0 := H2.cell 0
  have d1 := H2.cell 1
  have d2 := H2.cell 2
  have d3 := H2.cell 3
  have d4 := H2.cell 4
  have d5 := H2.cell 5
  have d6 := H2.cell 6
  have d7 := H2.cell 7
  have d8 := H2.cell 8
  have d9 := H2.cell 9
  simp only [Sup.arr, List.getElem?_toArray, List.getElem?_cons_zero, List.getElem?_cons_succ] at d0 d1 d2 d3 d4 d5 d6 d7 d8 d9
  simp [results, Tryd.results12, hp', hq', hr', asAddr, go_sem, d0, d1, d2, d3, d4, d5, d6, d7, d8, d9, Sup.arr]
set_option maxHeartbeats 4000000 in
set_option maxRecDepth 100000 in
theorem choose_ok (a b : Sup × Int) (u v : Value) (w : World) (hu : ∀ w1, Below w.heap.size w w1 → Calls Tryd.prog 24 #[u] w1 (UnQ a w1)) (hv : ∀ w1, Below w.heap.size w w1 → Calls Tryd.prog 24 #[v] w1 (UnQ b w1)) :
    Calls Tryd.prog 12 #[u, v] w (ChQ (chF a b) w) := by
  have HU := Lib.hid hu
  have HV := Lib.hid hv
  obtain ⟨q, eq⟩ : ∃ q, q = chF a b := ⟨_, rfl⟩
  rw [← eq]
  have Eq := Lib.hid eq
  clear hu hv eq
  go_enter Tryd.func12, Tryd.ntmps12
  go_wp2_with fail
  obtain ⟨w0, ew0⟩ : ∃ w0, w0 = w.alloc (.cells sup0.arr 27) := ⟨_, rfl⟩
  have hb0 : Below w.heap.size w w0 := by rw [ew0]; exact (Below.refl _ _).alloc (Nat.le_refl _) _
  have hR0 : Blk w0 w.heap.size 27 sup0.arr := by rw [ew0]; exact Blk.newAt _ _ _ _ rfl
  simp only [sup0, Sup.arr] at ew0
  rw [← ew0]
  have HB0 := Lib.hid hb0
  have HR0 := Lib.hid hR0
  clear hb0 hR0 ew0
  refine (HU.out w0 HB0.out).mono ?_
  rintro e w1 ⟨rfl, hb1⟩
  obtain ⟨w2, ew2⟩ : ∃ w2, w2 = w1.alloc (.cells a.1.arr 27) := ⟨_, rfl⟩
  have hb2 : Below w0.heap.size w0 w2 := by rw [ew2]; exact hb1.alloc hb1.size _
  have hR2 : Blk w2 w.heap.size 27 sup0.arr := HR0.out.below hb2 HR0.out.lt
  have hA2 : Blk w2 w1.heap.size 27 a.1.arr := by rw [ew2]; exact Blk.newAt _ _ _ _ rfl
  have hbw2 : Below w.heap.size w w2 := HB0.out.trans (hb2.mono HB0.out.size)
  have hne1 : w.heap.size < w1.heap.size := by have := hb1.size; have := HR0.out.lt; omega
  have HR2 := Lib.hid hR2
  have HA2 := Lib.hid hA2
  have HBW2 := Lib.hid hbw2
  simp only [Sup.arr] at ew2
  have EW2 := Lib.hid ew2
  clear hb2 hR2 hA2 hbw2 hb1 ew2
  simp only [Sup.arr]
  go_wp2_with fail
  rw [← EW2.out]
  refine (HV.out w2 HBW2.out).mono ?_
  rintro e w3 ⟨rfl, hb3⟩
  have hR3 : Blk w3 w.heap.size 27 sup0.arr := HR2.out.below hb3 HR2.out.lt
  have hA3 : Blk w3 w1.heap.size 27 a.1.arr := HA2.out.below hb3 HA2.out.lt
  have hbw3 : Below w.heap.size w w3 := HBW2.out.trans (hb3.mono HBW2.out.size)
  have hne3 : w1.heap.size < w3.heap.size := by have := hb3.size; have := HA2.out.lt; omega
  have HR3 := Lib.hid hR3
  have HA3 := Lib.hid hA3
  have HBW3 := Lib.hid hbw3
  have c0 := hR3.cell 0
  have c1 := hR3.cell 1
  have c2 := hR3.cell 2
  have c3 := hR3.cell 3
  have c4 := hR3.cell 4
  have c5 := hR3.cell 5
  have c6 := hR3.cell 6
  have c7 := hR3.cell 7
  have c8 := hR3.cell 8
  have c9 := hR3.cell 9
  have f0 := hR3.free 0
  have f1 := hR3.free 1
  have f2 := hR3.free 2
  have f3 := hR3.free 3
  have f4 := hR3.free 4
  have f5 := hR3.free 5
  have f6 := hR3.free 6
  have f7 := hR3.free 7
  have f8 := hR3.free 8
  have f9 := hR3.free 9
  simp only [sup0, Sup.arr, List.getElem?_toArray, List.getElem?_cons_zero, List.getElem?_cons_succ] at c0 c1 c2 c3 c4 c5 c6 c7 c8 c9
  have a0 := hA3.cell 0
  have a1 := hA3.cell 1
  have a2 := hA3.cell 2
  have a3 := hA3.cell 3
  have a4 := hA3.cell 4
  have a5 := hA3.cell 5
  have a6 := hA3.cell 6
  have a7 := hA3.cell 7
  have a8 := hA3.cell 8
  have a9 := hA3.cell 9
  simp only [sup0, Sup.arr, List.getElem?_toArray, List.getElem?_cons_zero, List.getElem?_cons_succ] at a0 a1 a2 a3 a4 a5 a6 a7 a8 a9
  clear hR3 hA3 hbw3 hb3
  simp only [Sup.arr]
  have hw1 : w.heap.size < w3.heap.size := by omega
  have hend : ∀ (s : Sup) (n e : Int) (tmps : Array Value) (hq : q = (s, n, e)) (hp : tmps.getD 4 undef = .pointer (some ⟨w.heap.size, 0, none⟩)) (h5 : tmps.getD 5 undef = .int .i64 n) (h6 : tmps.getD 6 undef = .int .i64 e) (o : Obj) (x0 x1 x2 x3 x4 x5 x6 x7 x8 x9 : Int) (h0x : s.sq = x0) (h1x : s.bl = x1) (h2x : s.sz = x2) (h3x : s.sl = x3) (h4x : s.cu = x4) (h5x : s.bm = x5) (h6x : s.o1 = x6) (h7x : s.o2 = x7) (h8x : s.fl = x8) (h9x : s.mr = x9),
      bodyPost Tryd.prog Tryd.f12 (ChQ q w) .ret { tmps := tmps, defers := [] } (((((((((((w3.setCell ⟨w.heap.size, 0, none⟩ (.int .u64 x0)).setCell ⟨w.heap.size, 1, none⟩ (.int .i64 x1)).setCell ⟨w.heap.size, 2, none⟩ (.int .i64 x2)).setCell ⟨w.heap.size, 3, none⟩ (.int .i64 x3)).setCell ⟨w.heap.size, 4, none⟩ (.int .u64 x4)).setCell ⟨w.heap.size, 5, none⟩ (.int .u64 x5)).setCell ⟨w.heap.size, 6, none⟩ (.int .u64 x6)).setCell ⟨w.heap.size, 7, none⟩ (.int .u64 x7)).setCell ⟨w.heap.size, 8, none⟩ (.int .u32 x8)).setCell ⟨w.heap.size, 9, none⟩ (.int .i64 x9)).alloc o) := by
    intro s n e tmps hq hp h5 h6 o x0 x1 x2 x3 x4 x5 x6 x7 x8 x9 h0x h1x h2x h3x h4x h5x h6x h7x h8x h9x
    subst h0x h1x h2x h3x h4x h5x h6x h7x h8x h9x
    have hR4 := HR3.out.set10 (.int .u64 s.sq) (.int .i64 s.bl) (.int .i64 s.sz) (.int .i64 s.sl) (.int .u64 s.cu) (.int .u64 s.bm) (.int .u64 s.o1) (.int .u64 s.o2) (.int .u32 s.fl) (.int .i64 s.mr)
    refine bodyPost_ret (ch_results _ _ w.heap.size s n e hp h5 h6 (hR4.alloc _)) rfl ⟨by rw [hq], ?_⟩
    have hO := HBW3.out.trans ((Only.set10 (bs := [w.heap.size]) (Only.refl [w.heap.size] w3) (List.mem_singleton.2 rfl) (.int .u64 s.sq) (.int .i64 s.bl) (.int .i64 s.sz) (.int .i64 s.sl) (.int .u64 s.cu) (.int .u64 s.bm) (.int .u64 s.o1) (.int .u64 s.o2) (.int .u32 s.fl) (.int .i64 s.mr)).below HBW3.out.size (fun b hb => by rw [List.mem_singleton.1 hb]; exact Nat.le_refl _))
    exact hO.alloc hO.size _
  have HEnd := Lib.hid hend
  clear hend
  by_cases ha : a.2 = 0
  · have ta : (a.2 != 0) = false := by rw [ha]; rfl
    by_cases hb : b.2 = 0
    · have tb : (b.2 != 0) = false := by rw [hb]; rfl
      by_cases hs : b.1.sq ≤ a.1.sq
      · have hq : q = (a.1, 0, 0) := by rw [Eq.out]; unfold chF; rw [if_neg (fun h => h.1 ha), if_neg (fun h => h ha), if_pos (.inr hs)]
        have HQ := Lib.hid hq
        have ts : decide (b.1.sq ≤ a.1.sq) = true := by simpa using hs
        clear hq ha hb
        go_wp2_with fail
        all_goals refine HEnd.out a.1 0 0 _ HQ.out ?_ ?_ ?_ _ _ _ _ _ _ _ _ _ _ _ ?_ ?_ ?_ ?_ ?_ ?_ ?_ ?_ ?_ ?_ <;> first | rfl | assumption | (symm; assumption)
      · have hq : q = (b.1, 1, 0) := by rw [Eq.out]; unfold chF; rw [if_neg (fun h => h.1 ha), if_neg (fun h => h ha), if_neg (fun h => h.elim (fun h => h hb) hs)]
        have HQ := Lib.hid hq
        have ts : decide (b.1.sq ≤ a.1.sq) = false := by simpa using hs
        have te : (a.1.sq == b.1.sq) = false := by rw [beq_eq_false_iff_ne]; omega
        clear hq ha hb
        go_wp2_with fail
        all_goals refine HEnd.out b.1 1 0 _ HQ.out ?_ ?_ ?_ _ _ _ _ _ _ _ _ _ _ _ ?_ ?_ ?_ ?_ ?_ ?_ ?_ ?_ ?_ ?_ <;> first | rfl | assumption | (symm; assumption)
    · have hq : q = (a.1, 0, 0) := by rw [Eq.out]; unfold chF; rw [if_neg (fun h => h.1 ha), if_neg (fun h => h ha), if_pos (.inl hb)]
      have HQ := Lib.hid hq
      have tb : (b.2 != 0) = true := by rw [bne_iff_ne]; exact hb
      clear hq ha hb
      go_wp2_with fail
      all_goals refine HEnd.out a.1 0 0 _ HQ.out ?_ ?_ ?_ _ _ _ _ _ _ _ _ _ _ _ ?_ ?_ ?_ ?_ ?_ ?_ ?_ ?_ ?_ ?_ <;> first | rfl | assumption | (symm; assumption)
  · have ta : (a.2 != 0) = true := by rw [bne_iff_ne]; exact ha
    by_cases hb : b.2 = 0
    · have hq : q = (b.1, 1, 0) := by rw [Eq.out]; unfold chF; rw [if_neg (fun h => h.2 hb), if_pos ha]
      have HQ := Lib.hid hq
      have tb : (b.2 != 0) = false := by rw [hb]; rfl
      clear hq ha hb
      go_wp2_with fail
      all_goals refine HEnd.out b.1 1 0 _ HQ.out ?_ ?_ ?_ _ _ _ _ _ _ _ _ _ _ _ ?_ ?_ ?_ ?_ ?_ ?_ ?_ ?_ ?_ ?_ <;> first | rfl | assumption | (symm; assumption)
    · have hq : q = (sup0, 0, 54) := by rw [Eq.out]; unfold chF; rw [if_pos ⟨ha, hb⟩]
      have HQ := Lib.hid hq
      have tb : (b.2 != 0) = true := by rw [bne_iff_ne]; exact hb
      clear hq ha hb
      go_wp2_with fail
      all_goals refine HEnd.out sup0 0 54 _ HQ.out ?_ ?_ ?_ _ _ _ _ _ _ _ _ _ _ _ ?_ ?_ ?_ ?_ ?_ ?_ ?_ ?_ ?_ ?_ <;> first | rfl | assumption | (symm; assumption)
end Go.Proofs.YtgehbfnfhjpjbaaDoor
