/- Joined of the texts LxP RowU. -/
import Derived.Test.YtigfcoibbmndpaaGreatMxG
import Derived.Outline
import Derived.Test.YtigfcoibbmndpaaGreatRows
import Derived.ProofKit
import Derived.OpenShut
import Derived.SizedLaws
import Derived.Deep.Matrix
import Derived.Deep.SlicePairs
/- The laws that play a script: they answer true. Printed by wip/tools/gen_ly.py. -/
namespace Go.Proofs.YtigfcoibbmndpaaGreat
open Go.RowKit
open Go.ChangeMaps
set_option linter.unusedVariables false
set_option linter.unusedSimpArgs false
set_option maxHeartbeats 2000000 in
set_option maxRecDepth 100000 in
theorem reads_law (w : World) (m : MadeV) (v : Value) (os : List OpV) (hr : Rd .u8 w m.iv m.img) (hml : m.img.length ≤ 140737488351232) (hv : OpsR w v os) (hn : os.length ≤ 1048576) (hd : ∀ i, i < os.length → (os.getD i d0).data.length ≤ 1048576) :
    Calls Tryz.prog 4 #[m.agg, v] w fun e w' => e = .returned (.bool true) ∧ Below w.heap.size w w' := by
  obtain ⟨Q, eQ⟩ : ∃ Q : Ending → World → Prop, Q = fun e w' => e = .returned (.bool true) ∧ Below w.heap.size w w' := ⟨_, rfl⟩
  rw [← eQ]
  have EQ := Lib.hid eQ
  obtain ⟨wb, ewb⟩ : ∃ wb, wb = w.alloc (.cells #[.bool m.load, .int .i64 m.nb, .int .i64 m.sz, m.iv] 24) := ⟨_, rfl⟩
  have hbw : Below w.heap.size w wb := by rw [ewb]; exact (Below.refl _ _).alloc (Nat.le_refl _) _
  have hbox : Blk wb w.heap.size 24 #[.bool m.load, .int .i64 m.nb, .int .i64 m.sz, m.iv] := by rw [ewb]; exact Blk.new _ _ _
  have hvb : OpsR wb v os := by
    refine ⟨hv.1, ?_⟩
    rcases hv.2 with h | ⟨b, off, c, e, g1, g2, g3, g4⟩
    · exact .inl h
    · exact .inr ⟨b, off, c, e, g1, g2, Nat.lt_of_lt_of_le g3 hbw.size, fun i hi => (g4 i hi).below g3 hbw⟩
  have hp := play_ok wb m v os 1 1 (hr.below hbw) hml hvb hn hd
  obtain ⟨A, c, rfl⟩ := hv.slice
  obtain ⟨L, eL⟩ : ∃ L, L = os.length := ⟨_, rfl⟩
  rw [← eL] at hp ⊢
  obtain ⟨Ai, ci, eiv⟩ := hr.slice
  have HP := Lib.hid hp
  have HBW := Lib.hid hbw
  have HBOX := Lib.hid hbox
  have EWB := Lib.hid ewb
  clear eQ hr hml hv eL hd hbw hbox hp ewb hvb
  obtain ⟨load, nb, sz, iv, img⟩ := m
  dsimp only at eiv HBOX EWB HP
  subst eiv
  simp only [MadeV.agg] at HP ⊢
  go_enter Tryz.func4, Tryz.ntmps4
  go_upto_region 1 with (fail)
  rw [← EWB.out]
  obtain ⟨B1, eB1⟩ : ∃ x, x = w.heap.size := ⟨_, rfl⟩
  rw [← eB1] at HBOX ⊢
  clear eB1
  have b0 := HBOX.out.cell 0
  have b1 := HBOX.out.cell 1
  have b2 := HBOX.out.cell 2
  have b3 := HBOX.out.cell 3
  simp only [List.getElem?_toArray, List.getElem?_cons_zero, List.getElem?_cons_succ] at b0 b1 b2 b3
  go_wp2_with fail
  refine HP.out.mono ?_
  rintro e w2 ⟨rfl, hb2⟩
  have HF := Lib.hid (show Q (.returned (.bool true)) w2 by rw [EQ.out]; exact ⟨rfl, HBW.out.trans (hb2.mono HBW.out.size)⟩)
  clear hb2
  go_wp2_with fail
  first | exact HF.out | (go_ret; exact HF.out)
set_option maxHeartbeats 2000000 in
set_option maxRecDepth 100000 in
theorem writes_law (w : World) (m : MadeV) (v : Value) (os : List OpV) (hr : Rd .u8 w m.iv m.img) (hml : m.img.length ≤ 140737488351232) (hv : OpsR w v os) (hn : os.length ≤ 1048576) (hd : ∀ i, i < os.length → (os.getD i d0).data.length ≤ 1048576) :
    Calls Tryz.prog 5 #[m.agg, v] w fun e w' => e = .returned (.bool true) ∧ Below w.heap.size w w' := by
  obtain ⟨Q, eQ⟩ : ∃ Q : Ending → World → Prop, Q = fun e w' => e = .returned (.bool true) ∧ Below w.heap.size w w' := ⟨_, rfl⟩
  rw [← eQ]
  have EQ := Lib.hid eQ
  obtain ⟨wb, ewb⟩ : ∃ wb, wb = w.alloc (.cells #[.bool m.load, .int .i64 m.nb, .int .i64 m.sz, m.iv] 24) := ⟨_, rfl⟩
  have hbw : Below w.heap.size w wb := by rw [ewb]; exact (Below.refl _ _).alloc (Nat.le_refl _) _
  have hbox : Blk wb w.heap.size 24 #[.bool m.load, .int .i64 m.nb, .int .i64 m.sz, m.iv] := by rw [ewb]; exact Blk.new _ _ _
  have hvb : OpsR wb v os := by
    refine ⟨hv.1, ?_⟩
    rcases hv.2 with h | ⟨b, off, c, e, g1, g2, g3, g4⟩
    · exact .inl h
    · exact .inr ⟨b, off, c, e, g1, g2, Nat.lt_of_lt_of_le g3 hbw.size, fun i hi => (g4 i hi).below g3 hbw⟩
  have hp := play_ok wb m v os 2 5 (hr.below hbw) hml hvb hn hd
  obtain ⟨A, c, rfl⟩ := hv.slice
  obtain ⟨L, eL⟩ : ∃ L, L = os.length := ⟨_, rfl⟩
  rw [← eL] at hp ⊢
  obtain ⟨Ai, ci, eiv⟩ := hr.slice
  have HP := Lib.hid hp
  have HBW := Lib.hid hbw
  have HBOX := Lib.hid hbox
  have EWB := Lib.hid ewb
  clear eQ hr hml hv eL hd hbw hbox hp ewb hvb
  obtain ⟨load, nb, sz, iv, img⟩ := m
  dsimp only at eiv HBOX EWB HP
  subst eiv
  simp only [MadeV.agg] at HP ⊢
  go_enter Tryz.func5, Tryz.ntmps5
  go_upto_region 1 with (fail)
  rw [← EWB.out]
  obtain ⟨B1, eB1⟩ : ∃ x, x = w.heap.size := ⟨_, rfl⟩
  rw [← eB1] at HBOX ⊢
  clear eB1
  have b0 := HBOX.out.cell 0
  have b1 := HBOX.out.cell 1
  have b2 := HBOX.out.cell 2
  have b3 := HBOX.out.cell 3
  simp only [List.getElem?_toArray, List.getElem?_cons_zero, List.getElem?_cons_succ] at b0 b1 b2 b3
  go_wp2_with fail
  refine HP.out.mono ?_
  rintro e w2 ⟨rfl, hb2⟩
  have HF := Lib.hid (show Q (.returned (.bool true)) w2 by rw [EQ.out]; exact ⟨rfl, HBW.out.trans (hb2.mono HBW.out.size)⟩)
  clear hb2
  go_wp2_with fail
  first | exact HF.out | (go_ret; exact HF.out)
set_option maxHeartbeats 2000000 in
set_option maxRecDepth 100000 in
theorem caches_law (w : World) (m : MadeV) (v : Value) (os : List OpV) (hr : Rd .u8 w m.iv m.img) (hml : m.img.length ≤ 140737488351232) (hv : OpsR w v os) (hn : os.length ≤ 1048576) (hd : ∀ i, i < os.length → (os.getD i d0).data.length ≤ 1048576) :
    Calls Tryz.prog 6 #[m.agg, v] w fun e w' => e = .returned (.bool true) ∧ Below w.heap.size w w' := by
  obtain ⟨Q, eQ⟩ : ∃ Q : Ending → World → Prop, Q = fun e w' => e = .returned (.bool true) ∧ Below w.heap.size w w' := ⟨_, rfl⟩
  rw [← eQ]
  have EQ := Lib.hid eQ
  obtain ⟨wb, ewb⟩ : ∃ wb, wb = w.alloc (.cells #[.bool m.load, .int .i64 m.nb, .int .i64 m.sz, m.iv] 24) := ⟨_, rfl⟩
  have hbw : Below w.heap.size w wb := by rw [ewb]; exact (Below.refl _ _).alloc (Nat.le_refl _) _
  have hbox : Blk wb w.heap.size 24 #[.bool m.load, .int .i64 m.nb, .int .i64 m.sz, m.iv] := by rw [ewb]; exact Blk.new _ _ _
  have hvb : OpsR wb v os := by
    refine ⟨hv.1, ?_⟩
    rcases hv.2 with h | ⟨b, off, c, e, g1, g2, g3, g4⟩
    · exact .inl h
    · exact .inr ⟨b, off, c, e, g1, g2, Nat.lt_of_lt_of_le g3 hbw.size, fun i hi => (g4 i hi).below g3 hbw⟩
  have hp := play_ok wb m v os 6 7 (hr.below hbw) hml hvb hn hd
  obtain ⟨A, c, rfl⟩ := hv.slice
  obtain ⟨L, eL⟩ : ∃ L, L = os.length := ⟨_, rfl⟩
  rw [← eL] at hp ⊢
  obtain ⟨Ai, ci, eiv⟩ := hr.slice
  have HP := Lib.hid hp
  have HBW := Lib.hid hbw
  have HBOX := Lib.hid hbox
  have EWB := Lib.hid ewb
  clear eQ hr hml hv eL hd hbw hbox hp ewb hvb
  obtain ⟨load, nb, sz, iv, img⟩ := m
  dsimp only at eiv HBOX EWB HP
  subst eiv
  simp only [MadeV.agg] at HP ⊢
  go_enter Tryz.func6, Tryz.ntmps6
  go_upto_region 1 with (fail)
  rw [← EWB.out]
  obtain ⟨B1, eB1⟩ : ∃ x, x = w.heap.size := ⟨_, rfl⟩
  rw [← eB1] at HBOX ⊢
  clear eB1
  have b0 := HBOX.out.cell 0
  have b1 := HBOX.out.cell 1
  have b2 := HBOX.out.cell 2
  have b3 := HBOX.out.cell 3
  simp only [List.getElem?_toArray, List.getElem?_cons_zero, List.getElem?_cons_succ] at b0 b1 b2 b3
  go_wp2_with fail
  refine HP.out.mono ?_
  rintro e w2 ⟨rfl, hb2⟩
  have HF := Lib.hid (show Q (.returned (.bool true)) w2 by rw [EQ.out]; exact ⟨rfl, HBW.out.trans (hb2.mono HBW.out.size)⟩)
  clear hb2
  go_wp2_with fail
  first | exact HF.out | (go_ret; exact HF.out)
set_option maxHeartbeats 2000000 in
set_option maxRecDepth 100000 in
theorem durables_law (w : World) (m : MadeV) (v : Value) (os : List OpV) (hr : Rd .u8 w m.iv m.img) (hml : m.img.length ≤ 140737488351232) (hv : OpsR w v os) (hn : os.length ≤ 1048576) (hd : ∀ i, i < os.length → (os.getD i d0).data.length ≤ 1048576) :
    Calls Tryz.prog 7 #[m.agg, v] w fun e w' => e = .returned (.bool true) ∧ Below w.heap.size w w' := by
  obtain ⟨Q, eQ⟩ : ∃ Q : Ending → World → Prop, Q = fun e w' => e = .returned (.bool true) ∧ Below w.heap.size w w' := ⟨_, rfl⟩
  rw [← eQ]
  have EQ := Lib.hid eQ
  obtain ⟨wb, ewb⟩ : ∃ wb, wb = w.alloc (.cells #[.bool m.load, .int .i64 m.nb, .int .i64 m.sz, m.iv] 24) := ⟨_, rfl⟩
  have hbw : Below w.heap.size w wb := by rw [ewb]; exact (Below.refl _ _).alloc (Nat.le_refl _) _
  have hbox : Blk wb w.heap.size 24 #[.bool m.load, .int .i64 m.nb, .int .i64 m.sz, m.iv] := by rw [ewb]; exact Blk.new _ _ _
  have hvb : OpsR wb v os := by
    refine ⟨hv.1, ?_⟩
    rcases hv.2 with h | ⟨b, off, c, e, g1, g2, g3, g4⟩
    · exact .inl h
    · exact .inr ⟨b, off, c, e, g1, g2, Nat.lt_of_lt_of_le g3 hbw.size, fun i hi => (g4 i hi).below g3 hbw⟩
  have hp := play_ok wb m v os 8 10 (hr.below hbw) hml hvb hn hd
  obtain ⟨A, c, rfl⟩ := hv.slice
  obtain ⟨L, eL⟩ : ∃ L, L = os.length := ⟨_, rfl⟩
  rw [← eL] at hp ⊢
  obtain ⟨Ai, ci, eiv⟩ := hr.slice
  have HP := Lib.hid hp
  have HBW := Lib.hid hbw
  have HBOX := Lib.hid hbox
  have EWB := Lib.hid ewb
  clear eQ hr hml hv eL hd hbw hbox hp ewb hvb
  obtain ⟨load, nb, sz, iv, img⟩ := m
  dsimp only at eiv HBOX EWB HP
  subst eiv
  simp only [MadeV.agg] at HP ⊢
  go_enter Tryz.func7, Tryz.ntmps7
  go_upto_region 1 with (fail)
  rw [← EWB.out]
  obtain ⟨B1, eB1⟩ : ∃ x, x = w.heap.size := ⟨_, rfl⟩
  rw [← eB1] at HBOX ⊢
  clear eB1
  have b0 := HBOX.out.cell 0
  have b1 := HBOX.out.cell 1
  have b2 := HBOX.out.cell 2
  have b3 := HBOX.out.cell 3
  simp only [List.getElem?_toArray, List.getElem?_cons_zero, List.getElem?_cons_succ] at b0 b1 b2 b3
  go_wp2_with fail
  refine HP.out.mono ?_
  rintro e w2 ⟨rfl, hb2⟩
  have HF := Lib.hid (show Q (.returned (.bool true)) w2 by rw [EQ.out]; exact ⟨rfl, HBW.out.trans (hb2.mono HBW.out.size)⟩)
  clear hb2
  go_wp2_with fail
  first | exact HF.out | (go_ret; exact HF.out)
set_option maxHeartbeats 2000000 in
set_option maxRecDepth 100000 in
theorem powers_law (w : World) (m : MadeV) (v : Value) (os : List OpV) (hr : Rd .u8 w m.iv m.img) (hml : m.img.length ≤ 140737488351232) (hv : OpsR w v os) (hn : os.length ≤ 1048576) (hd : ∀ i, i < os.length → (os.getD i d0).data.length ≤ 1048576) :
    Calls Tryz.prog 8 #[m.agg, v] w fun e w' => e = .returned (.bool true) ∧ Below w.heap.size w w' := by
  obtain ⟨Q, eQ⟩ : ∃ Q : Ending → World → Prop, Q = fun e w' => e = .returned (.bool true) ∧ Below w.heap.size w w' := ⟨_, rfl⟩
  rw [← eQ]
  have EQ := Lib.hid eQ
  obtain ⟨wb, ewb⟩ : ∃ wb, wb = w.alloc (.cells #[.bool m.load, .int .i64 m.nb, .int .i64 m.sz, m.iv] 24) := ⟨_, rfl⟩
  have hbw : Below w.heap.size w wb := by rw [ewb]; exact (Below.refl _ _).alloc (Nat.le_refl _) _
  have hbox : Blk wb w.heap.size 24 #[.bool m.load, .int .i64 m.nb, .int .i64 m.sz, m.iv] := by rw [ewb]; exact Blk.new _ _ _
  have hvb : OpsR wb v os := by
    refine ⟨hv.1, ?_⟩
    rcases hv.2 with h | ⟨b, off, c, e, g1, g2, g3, g4⟩
    · exact .inl h
    · exact .inr ⟨b, off, c, e, g1, g2, Nat.lt_of_lt_of_le g3 hbw.size, fun i hi => (g4 i hi).below g3 hbw⟩
  have hp := play_ok wb m v os 12 15 (hr.below hbw) hml hvb hn hd
  obtain ⟨A, c, rfl⟩ := hv.slice
  obtain ⟨L, eL⟩ : ∃ L, L = os.length := ⟨_, rfl⟩
  rw [← eL] at hp ⊢
  obtain ⟨Ai, ci, eiv⟩ := hr.slice
  have HP := Lib.hid hp
  have HBW := Lib.hid hbw
  have HBOX := Lib.hid hbox
  have EWB := Lib.hid ewb
  clear eQ hr hml hv eL hd hbw hbox hp ewb hvb
  obtain ⟨load, nb, sz, iv, img⟩ := m
  dsimp only at eiv HBOX EWB HP
  subst eiv
  simp only [MadeV.agg] at HP ⊢
  go_enter Tryz.func8, Tryz.ntmps8
  go_upto_region 1 with (fail)
  rw [← EWB.out]
  obtain ⟨B1, eB1⟩ : ∃ x, x = w.heap.size := ⟨_, rfl⟩
  rw [← eB1] at HBOX ⊢
  clear eB1
  have b0 := HBOX.out.cell 0
  have b1 := HBOX.out.cell 1
  have b2 := HBOX.out.cell 2
  have b3 := HBOX.out.cell 3
  simp only [List.getElem?_toArray, List.getElem?_cons_zero, List.getElem?_cons_succ] at b0 b1 b2 b3
  go_wp2_with fail
  refine HP.out.mono ?_
  rintro e w2 ⟨rfl, hb2⟩
  have HF := Lib.hid (show Q (.returned (.bool true)) w2 by rw [EQ.out]; exact ⟨rfl, HBW.out.trans (hb2.mono HBW.out.size)⟩)
  clear hb2
  go_wp2_with fail
  first | exact HF.out | (go_ret; exact HF.out)
end Go.Proofs.YtigfcoibbmndpaaGreat
/- Reading the arguments of a row, and how great they are: a slice of calls, what a disk is made of. -/
namespace Go.Proofs.YtigfcoibbmndpaaGreat
open Go.ChangeShapes Go.WideShapes Go.ChangeAt Go.RowKit Go.Deep
set_option linter.unusedVariables false
set_option linter.unusedSimpArgs false
theorem bulk_one {H : Type} (d : DataW H) : 1 ≤ Rows.uptoBulk d := by
  cases d with
  | lit l => cases l <;> simp [Rows.uptoBulk]
  | nil => simp [Rows.uptoBulk]
  | ptr d => simp [Rows.uptoBulk]
  | slice elems spare => simp [Rows.uptoBulk]
  | agg parts => simp [Rows.uptoBulk]
  | iface t d => simp [Rows.uptoBulk]
  | map entries => simp [Rows.uptoBulk]
  | held h => simp [Rows.uptoBulk]
theorem bulk_part {H : Type} {d : DataW H} {l : List (DataW H)} (h : d ∈ l) : Rows.uptoBulk d ≤ Rows.uptoBulkAll l := by
  induction l with
  | nil => cases h
  | cons x r ih =>
    simp only [Rows.uptoBulkAll]
    cases List.mem_cons.1 h with
    | inl e => subst e; omega
    | inr e => have := ih e; omega
theorem bulk_len {H : Type} (l : List (DataW H)) : l.length ≤ Rows.uptoBulkAll l := by
  induction l with
  | nil => simp [Rows.uptoBulkAll]
  | cons x r ih => have := bulk_one x; simp only [Rows.uptoBulkAll, List.length_cons]; omega
theorem rd_of_cells {k : IntKind} {w : World} {x : Addr} {len cap : Nat} {zs : List Int} (hl : len ≤ cap) (hz : zs.length = cap) (hc : ∀ i, i < zs.length → w.cell? (x.add i) = some (.int k (zs.getD i 0))) :
    Rd k w (.slice (some x) len cap) (zs.take len) := by
  by_cases h0 : len = 0
  · subst h0; exact .inl ⟨by simp, _, _, rfl⟩
  · obtain ⟨b, off, rfl, hh⟩ := ints_at hc (by omega)
    have e : (zs.take len).length = len := by rw [List.length_take]; omega
    refine .inr ⟨b, off, cap, by rw [e], by omega, by omega, World.block_lt_of_cell? w _ (hh 0 (by omega)), fun i hi => ?_⟩
    rw [hh i (by omega)]
    congr 2
    simp only [List.getD_eq_getElem?_getD]
    rw [List.getElem?_take, if_pos (by omega)]
theorem addr_plain {w : World} {a : Addr} {v : Value} (h : w.cell? (a.add 0) = some v) : ∃ b off, a = ⟨b, off, none⟩ := by
  obtain ⟨b, off, spot⟩ := a
  have hspot : spot = none := by simpa [Addr.add] using World.cell?_spot h
  subst hspot
  exact ⟨b, off, rfl⟩
theorem wf_u8 {x : Int} (h : (Lit.int .u8 x).wf = true) : 0 ≤ x ∧ x < 256 := by
  simp [Lit.wf, IntKind.min, IntKind.max, IntKind.bits, IntKind.signed] at h
  omega
/-- A call's cells, from an address on. -/
def w_op (W : World) (x : Addr) (i : Nat) (o : OpV) : Prop := W.cell? (x.add (i * 4)) = some (.int .i64 o.kind) ∧ W.cell? (x.add (i * 4 + 1)) = some (.int .i64 o.blk) ∧ W.cell? (x.add (i * 4 + 2)) = some (.int .i64 o.cnt) ∧ W.cell? (x.add (i * 4 + 3)) = some o.dv ∧ Rd .u8 W o.dv o.data ∧ I64 o.blk ∧ I64 o.cnt ∧ BytesL o.data ∧ o.data.length ≤ 9223372036854775807
section
variable {H : Type} {enc : TypeId × Value → H} {P : Program} {W : World} {base : Nat} {held : Bool}
theorem bytes_of_trod {t e : TypeId} {fuel : Nat} {v : Value} {y : DataW H × List MemPlace} (hu : P.underlying t = some (.slice e)) (he : P.underlying e = some (.int .u8)) (hc : P.cellsOf e = 1)
    (h : DataW.trod enc P W base (fun _ => true) held fuel t [v] = some y) : ∃ zs, Rd .u8 W v zs ∧ BytesL zs ∧ zs.length ≤ 9223372036854775807 ∧ zs.length ≤ Rows.uptoBulk y.1 := by
  rcases open_ints hu he hc h with ⟨hcs, _⟩ | ⟨x, l, c, zs, hcs, _, hl, hm, hz, hx, hcell, hwz⟩
  · simp at hcs
    subst hcs
    exact ⟨[], .inl ⟨rfl, _, _, rfl⟩, ⟨fun x hx => (List.not_mem_nil hx).elim, Nat.zero_le _, Nat.zero_le _⟩⟩
  · simp at hcs
    subst hcs
    simp only [if_true] at hz
    refine ⟨zs.take l, rd_of_cells hl hz hcell, fun x hx => wf_u8 (hwz x (List.mem_of_mem_take hx)), ?_, ?_⟩
    · rw [List.length_take]
      unfold maxLen at hm
      omega
    · rw [hx]
      have h1 := bulk_len (H := H) (lits .u8 (zs.take l))
      simp only [Rows.uptoBulk]
      unfold lits at h1 ⊢
      rw [List.length_map] at h1
      omega
theorem int_of_trod {t : TypeId} {k : IntKind} {fuel : Nat} {v : Value} {y : DataW H × List MemPlace} (hu : P.underlying t = some (.int k)) (h : DataW.trod enc P W base (fun _ => true) held fuel t [v] = some y) : ∃ n, v = .int k n ∧ (Lit.int k n).wf = true := by
  cases fuel with
  | zero => simp [DataW.trod] at h
  | succ f =>
    unfold DataW.trod at h
    rw [hu] at h
    cases v <;> simp at h
    rename_i k' n
    exact ⟨n, by rw [h.1.1], h.1.2⟩
theorem bool_of_trod {t : TypeId} {fuel : Nat} {v : Value} {y : DataW H × List MemPlace} (hu : P.underlying t = some .bool) (h : DataW.trod enc P W base (fun _ => true) held fuel t [v] = some y) : ∃ b, v = .bool b := by
  cases fuel with
  | zero => simp [DataW.trod] at h
  | succ f =>
    unfold DataW.trod at h
    rw [hu] at h
    cases v <;> simp at h
    exact ⟨_, rfl⟩
/-- A slice of Ops. -/
theorem ops_of_trod {t e : TypeId} {f0 f1 f2 f3 : Field} {q : TypeId} {a : Option Addr} {len cap : Nat} {d : DataW H} {ps : List MemPlace} {ts : List TypeId} {ds : List (DataW H)} {j : Nat}
    (hsz : (DataW.weightsEach P ts ds).all (· ≤ reachBytes) = true) (ht : ts[j]? = some t) (hd : ds[j]? = some d) (hu : P.underlying t = some (.slice e)) (he : P.underlying e = some (.struct #[f0, f1, f2, f3])) (ce : P.cellsOf e = 4) (hB : P.bytesOf e = 48)
    (o0 : f0.offset = 0) (o1 : f1.offset = 1) (o2 : f2.offset = 2) (o3 : f3.offset = 3) (c0 : P.cellsOf f0.type = 1) (c1 : P.cellsOf f1.type = 1) (c2 : P.cellsOf f2.type = 1) (c3 : P.cellsOf f3.type = 1)
    (u0 : P.underlying f0.type = some (.int .i64)) (u1 : P.underlying f1.type = some (.int .i64)) (u2 : P.underlying f2.type = some (.int .i64)) (u3 : P.underlying f3.type = some (.slice q)) (uq : P.underlying q = some (.int .u8)) (cq : P.cellsOf q = 1)
    (h : DataW.Trod enc P W base (fun _ => true) held t (.slice a len cap) d ps) : ∃ xs, OpsR W (.slice a len cap) xs ∧ xs.length ≤ Rows.uptoBulk d ∧ ∀ i, i < xs.length → (xs.getD i d0).data.length ≤ Rows.uptoBulk d := by
  have hrb : reachBytes = 140737488351232 := by decide
  obtain ⟨fuel, hf⟩ := h
  rcases open_slice hu hf with ⟨hcs, _⟩ | ⟨x, l, c, m, n, D, Pl, hcs, _, hl, _, hm, hx, hall⟩
  · simp [Value.cells] at hcs
    obtain ⟨rfl, rfl, rfl⟩ := hcs
    exact ⟨[], ⟨by simp, .inl ⟨rfl, _, _, rfl⟩⟩, Nat.zero_le _, fun i hi => absurd hi (by simp)⟩
  · simp [Value.cells] at hcs
    obtain ⟨rfl, rfl, rfl⟩ := hcs
    obtain ⟨hx, _⟩ := Prod.mk.inj hx
    subst hx
    simp only [if_true] at hm
    subst hm
    have z := sized_slice hsz ht hd hu
    simp only [List.length_map, List.length_range, hB] at z
    have hlen : len * 48 ≤ 140737488351232 := by
      have : len * 48 ≤ (len + (m - len)) * 48 := Nat.mul_le_mul_right _ (by omega)
      omega
    rw [ce] at hall
    have hbulk : ∀ i, i < len → Rows.uptoBulk (D i) ≤ Rows.uptoBulk (DataW.slice ((List.range len).map D) ((List.range (m - len)).map fun j => D (len + j))) := fun i hi => by
      have h1 := bulk_part (l := (List.range len).map D) (d := D i) (List.mem_map.2 ⟨i, List.mem_range.2 hi, rfl⟩)
      simp only [Rows.uptoBulk]
      omega
    have hlenb : len ≤ Rows.uptoBulk (DataW.slice ((List.range len).map D) ((List.range (m - len)).map fun j => D (len + j))) := by
      have h1 := bulk_len ((List.range len).map D)
      rw [List.length_map, List.length_range] at h1
      simp only [Rows.uptoBulk]
      omega
    have each : ∀ i, i < len → ∃ p : OpV, w_op W x i p ∧ p.data.length ≤ Rows.uptoBulk (D i) := by
      intro i hi
      obtain ⟨cs', h1, h2⟩ := hall i (by omega)
      obtain ⟨_, hlen3, hcell⟩ := World.cells?_some h1
      obtain ⟨xs, k, _, hDi, _, hxl, hfl⟩ := DataW.trod_struct he h2
      match xs, hxl, cs', hlen3 with
      | [y0, y1, y2, y3], _, [v0, v1, v2, v3], _ =>
        have g0 := hfl 0 f0 rfl
        have g1 := hfl 1 f1 rfl
        have g2 := hfl 2 f2 rfl
        have g3 := hfl 3 f3 rfl
        simp [o0, o1, o2, o3, c0, c1, c2, c3] at g0 g1 g2 g3
        have e0 := hcell 0 (by omega)
        have e1 := hcell 1 (by omega)
        have e2 := hcell 2 (by omega)
        have e3 := hcell 3 (by omega)
        rw [add_add] at e0 e1 e2 e3
        obtain ⟨nk, rfl, _⟩ := int_of_trod u0 g0
        obtain ⟨nb, rfl, wb⟩ := int_of_trod u1 g1
        obtain ⟨nc, rfl, wc⟩ := int_of_trod u2 g2
        obtain ⟨zs, hr, hb, hz, hzb⟩ := bytes_of_trod u3 uq cq g3
        refine ⟨⟨nk, nb, nc, v3, zs⟩, ⟨by simpa using e0, by simpa using e1, by simpa using e2, by simpa using e3, hr, wb, wc, hb, hz⟩, ?_⟩
        have hD : D i = DataW.agg [y0.1, y1.1, y2.1, y3.1] := (Prod.mk.inj hDi).1
        rw [hD]
        simp only [Rows.uptoBulk, Rows.uptoBulkAll]
        show zs.length ≤ _
        omega
    have each' : ∀ i, ∃ p : OpV, i < len → w_op W x i p ∧ p.data.length ≤ Rows.uptoBulk (D i) := fun i => by
      by_cases hi : i < len
      · obtain ⟨p, hp⟩ := each i hi; exact ⟨p, fun _ => hp⟩
      · exact ⟨d0, fun h => absurd h hi⟩
    let q : Nat → OpV := fun i => (each' i).choose
    have hq0 : ∀ i, i < len → w_op W x i (q i) ∧ (q i).data.length ≤ Rows.uptoBulk (D i) := fun i => (each' i).choose_spec
    have hq : ∀ i, i < len → w_op W x i (q i) := fun i hi => (hq0 i hi).1
    have hgd : ∀ i, i < len → ((List.range len).map q).getD i d0 = q i := fun i hi' => by
      rw [List.getD_eq_getElem?_getD, List.getElem?_map, List.getElem?_range hi']
      rfl
    refine ⟨(List.range len).map q, ⟨by simp; exact hlen, ?_⟩, by rw [List.length_map, List.length_range]; exact hlenb, fun i hi => by
      have hi' : i < len := by simpa using hi
      rw [hgd i hi']
      exact Nat.le_trans (hq0 i hi').2 (hbulk i hi')⟩
    by_cases h0 : len = 0
    · exact .inl ⟨by rw [h0]; rfl, _, _, by rw [h0]⟩
    · obtain ⟨b, off, rfl⟩ := addr_plain (by have := (hq 0 (by omega)).1; rwa [Nat.zero_mul] at this)
      have hb0 := (hq 0 (by omega)).1
      rw [Go.WideShapes.add_plain] at hb0
      refine .inr ⟨b, off, m, by simp, by simp; omega, by simp; exact hl, World.block_lt_of_cell? W _ hb0, fun i hi => ?_⟩
      have hi' : i < len := by simpa using hi
      have hg : ((List.range len).map q).getD i d0 = q i := by
        rw [List.getD_eq_getElem?_getD, List.getElem?_map, List.getElem?_range hi']
        rfl
      rw [hg]
      obtain ⟨k0, k1, k2, k3, k4, k5, k6, k7, k8⟩ := hq i hi'
      rw [Go.WideShapes.add_plain] at k0 k1 k2 k3
      exact ⟨k0, by rw [Nat.add_assoc]; exact k1, by rw [Nat.add_assoc]; exact k2, by rw [Nat.add_assoc]; exact k3, k4, k5, k6, k7, k8⟩
/-- What a disk is made of. -/
theorem made_of_trod {t : TypeId} {f0 f1 f2 f3 : Field} {q : TypeId} {v : Value} {d : DataW H} {ps : List MemPlace} {r : Reach} {b0 : Nat}
    (hv : Value.okWide P W r b0 t v)
    (he : P.underlying t = some (.struct #[f0, f1, f2, f3])) (ce : P.cellsOf t = 4)
    (o0 : f0.offset = 0) (o1 : f1.offset = 1) (o2 : f2.offset = 2) (o3 : f3.offset = 3) (c0 : P.cellsOf f0.type = 1) (c1 : P.cellsOf f1.type = 1) (c2 : P.cellsOf f2.type = 1) (c3 : P.cellsOf f3.type = 1)
    (u0 : P.underlying f0.type = some .bool) (u1 : P.underlying f1.type = some (.int .i64)) (u2 : P.underlying f2.type = some (.int .i64)) (u3 : P.underlying f3.type = some (.slice q)) (uq : P.underlying q = some (.int .u8)) (cq : P.cellsOf q = 1)
    (h : DataW.Trod enc P W base (fun _ => true) held t v d ps) : ∃ m : MadeV, v = m.agg ∧ Rd .u8 W m.iv m.img ∧ m.img.length ≤ Rows.uptoBulk d := by
  obtain ⟨cs, rfl, hsz⟩ := okWide_struct he hv
  obtain ⟨fuel, hf⟩ := h
  simp only [Value.cells] at hf
  have hl : cs.toList.length = 4 := by rw [Array.length_toList, hsz, ce]
  obtain ⟨xs, k, _, hDi, _, hxl, hfl⟩ := DataW.trod_struct he hf
  obtain ⟨l, el⟩ : ∃ l, l = cs.toList := ⟨_, rfl⟩
  rw [← el] at hl hfl
  match xs, hxl, l, hl with
  | [y0, y1, y2, y3], _, [v0, v1, v2, v3], _ =>
    have g0 := hfl 0 f0 rfl
    have g1 := hfl 1 f1 rfl
    have g2 := hfl 2 f2 rfl
    have g3 := hfl 3 f3 rfl
    simp [o0, o1, o2, o3, c0, c1, c2, c3] at g0 g1 g2 g3
    obtain ⟨bo, rfl⟩ := bool_of_trod u0 g0
    obtain ⟨nb, rfl, _⟩ := int_of_trod u1 g1
    obtain ⟨nc, rfl, _⟩ := int_of_trod u2 g2
    obtain ⟨zs, hr, hb, hz, hzb⟩ := bytes_of_trod u3 uq cq g3
    refine ⟨⟨bo, nb, nc, v3, zs⟩, ?_, hr, ?_⟩
    · unfold MadeV.agg
      rw [← Array.toArray_toList (xs := cs), ← el]
    · have hD : d = DataW.agg [y0.1, y1.1, y2.1, y3.1] := (Prod.mk.inj hDi).1
      rw [hD]
      simp only [Rows.uptoBulk, Rows.uptoBulkAll]
      show zs.length ≤ _
      omega
end
end Go.Proofs.YtigfcoibbmndpaaGreat
