/- One chunk mixed into the state, the document's: chunk. -/
import Derived.Test.YtjcinelcocmpnaaDoorRefA
import Derived.Test.YtjcinelcocmpnaaDoorShaD
namespace Go.Proofs.YtjcinelcocmpnaaDoor
open Go.RowKit
set_option linter.unusedVariables false
set_option linter.unusedSimpArgs false
theorem st8_size : (Tryd.prog.info? 71).map (·.size) = some 8 := by kernel_rfl
theorem addSt_comm (s v : St) : addSt s v = addSt v s := by
  unfold addSt
  simp only [Int.add_comm]
theorem turn_6q (x : Int) (w : World) (n : Nat) : Calls Tryd.prog 51 #[.int .u32 x, .int .u32 6] (w.drewN n) fun e w'' => e = .returned (.int .u32 (rotF x 6)) ∧ ∃ m, w'' = w.drewN m :=
  Calls.quiet_of_same ((turn_6 _ _).mono fun _ _ h => ⟨h.1, h.2.symm⟩)
theorem turn_11q (x : Int) (w : World) (n : Nat) : Calls Tryd.prog 51 #[.int .u32 x, .int .u32 11] (w.drewN n) fun e w'' => e = .returned (.int .u32 (rotF x 11)) ∧ ∃ m, w'' = w.drewN m :=
  Calls.quiet_of_same ((turn_11 _ _).mono fun _ _ h => ⟨h.1, h.2.symm⟩)
theorem turn_25q (x : Int) (w : World) (n : Nat) : Calls Tryd.prog 51 #[.int .u32 x, .int .u32 25] (w.drewN n) fun e w'' => e = .returned (.int .u32 (rotF x 25)) ∧ ∃ m, w'' = w.drewN m :=
  Calls.quiet_of_same ((turn_25 _ _).mono fun _ _ h => ⟨h.1, h.2.symm⟩)
/-- The first loop of chunk, behind t rounds. -/
def CkA (s : St) (ws ks : List Int) (t : Nat) (w wr : World) : Prop :=
  Below w.heap.size w wr ∧ Blk wr w.heap.size 71 s.arr ∧ RowA .u32 72 wr (w.heap.size + 1) 64 (fun i => ws.getD i 0) ∧ RowA .u32 72 wr (w.heap.size + 1 + 1) 64 (fun i => ks.getD i 0) ∧ Blk wr (w.heap.size + 1 + 1 + 1) 71 st0.arr ∧ Blk wr (w.heap.size + 1 + 1 + 1 + 1) 71 (mixN (fun i => ks.getD i 0) ws s t).arr
theorem CkA.step {s : St} {ws ks : List Int} {t : Nat} {w wr : World} (h : CkA s ws ks t w wr) (a b c d e f g k : Int) (hv : mixN (fun i => ks.getD i 0) ws s (t + 1) = ⟨a, b, c, d, e, f, g, k⟩) :
    CkA s ws ks (t + 1) w ((((((((wr.setCell ⟨w.heap.size + 1 + 1 + 1 + 1, 0, none⟩ (.int .u32 a)).setCell ⟨w.heap.size + 1 + 1 + 1 + 1, 1, none⟩ (.int .u32 b)).setCell ⟨w.heap.size + 1 + 1 + 1 + 1, 2, none⟩ (.int .u32 c)).setCell ⟨w.heap.size + 1 + 1 + 1 + 1, 3, none⟩ (.int .u32 d)).setCell ⟨w.heap.size + 1 + 1 + 1 + 1, 4, none⟩ (.int .u32 e)).setCell ⟨w.heap.size + 1 + 1 + 1 + 1, 5, none⟩ (.int .u32 f)).setCell ⟨w.heap.size + 1 + 1 + 1 + 1, 6, none⟩ (.int .u32 g)).setCell ⟨w.heap.size + 1 + 1 + 1 + 1, 7, none⟩ (.int .u32 k)) := by
  obtain ⟨h1, h2, h3, h4, h5, h6⟩ := h
  have q : w.heap.size ≤ w.heap.size + 1 + 1 + 1 + 1 := by omega
  have q1 : w.heap.size ≠ w.heap.size + 1 + 1 + 1 + 1 := by omega
  have q2 : w.heap.size + 1 ≠ w.heap.size + 1 + 1 + 1 + 1 := by omega
  have q3 : w.heap.size + 1 + 1 ≠ w.heap.size + 1 + 1 + 1 + 1 := by omega
  have q4 : w.heap.size + 1 + 1 + 1 ≠ w.heap.size + 1 + 1 + 1 + 1 := by omega
  refine ⟨(((((((h1.setCell q _).setCell q _).setCell q _).setCell q _).setCell q _).setCell q _).setCell q _).setCell q _, ?_, ?_, ?_, ?_, ?_⟩
  · exact (((((((h2.far q1 _).far q1 _).far q1 _).far q1 _).far q1 _).far q1 _).far q1 _).far q1 _
  · exact (((((((h3.far q2 _).far q2 _).far q2 _).far q2 _).far q2 _).far q2 _).far q2 _).far q2 _
  · exact (((((((h4.far q3 _).far q3 _).far q3 _).far q3 _).far q3 _).far q3 _).far q3 _).far q3 _
  · exact (((((((h5.far q4 _).far q4 _).far q4 _).far q4 _).far q4 _).far q4 _).far q4 _).far q4 _
  · rw [hv]
    exact Blk.set8 h6 a b c d e f g k
theorem CkA.drewN {s : St} {ws ks : List Int} {t : Nat} {w wr : World} (h : CkA s ws ks t w wr) (n : Nat) : CkA s ws ks t w (wr.drewN n) := ⟨below_drewN h.1 n, h.2.1, h.2.2.1, h.2.2.2.1, h.2.2.2.2.1, h.2.2.2.2.2⟩
set_option maxHeartbeats 2000000 in
set_option maxRecDepth 100000 in
theorem chunk_ok (s : St) (ws ks : List Int) (w : World) (hw : ws.length = 64) (hk : ks.length = 64) :
    Calls Tryd.prog 48 #[.agg s.arr, .agg (ws.map (Value.int .u32)).toArray, .agg (ks.map (Value.int .u32)).toArray] w fun e w' => e = .returned (.agg (addSt s (mixN (fun i => ks.getD i 0) ws s 64)).arr) ∧ Below w.heap.size w w' := by
  obtain ⟨wa, ewa⟩ : ∃ arr, arr = (ws.map (Value.int .u32)).toArray := ⟨_, rfl⟩
  obtain ⟨ka, eka⟩ : ∃ arr, arr = (ks.map (Value.int .u32)).toArray := ⟨_, rfl⟩
  rw [← ewa, ← eka]
  have hr1 : RowA .u32 72 ((((w.alloc (.cells s.arr 71)).alloc (.cells wa 72)).alloc (.cells ka 72))) (w.heap.size + 1) 64 (fun i => ws.getD i 0) := by
    have := row_of_list .u32 72 (w.alloc (.cells s.arr 71)) ws
    rw [hw, size_alloc, ← ewa] at this
    exact this.alloc _
  have hr2 : RowA .u32 72 ((((w.alloc (.cells s.arr 71)).alloc (.cells wa 72)).alloc (.cells ka 72))) (w.heap.size + 1 + 1) 64 (fun i => ks.getD i 0) := by
    have := row_of_list .u32 72 ((w.alloc (.cells s.arr 71)).alloc (.cells wa 72)) ks
    rw [hk, size_alloc, size_alloc, ← eka] at this
    exact this
  have HR1 := Lib.hid hr1
  have HR2 := Lib.hid hr2
  clear hr1 hr2 ewa eka hw hk
  simp only [St.arr] at HR1 HR2 ⊢
  go_enter Tryd.func48, Tryd.ntmps48
  go_wp2_with fail
  go_loopw [8, 9, 10, 11, 12, 13, 14] (fun i _ _ _ _ _ _ wr => ∃ t : Nat, t ≤ 64 ∧ i = .int .i64 t ∧ CkA s ws ks t w wr) (fun i _ _ _ _ _ _ _ => 64 - (intOf i).toNat)
  case atStart =>
    refine ⟨0, by omega, rfl, ?_, ?_, ?_, ?_, ?_, ?_⟩
    · exact (((((Below.refl _ _).alloc (Nat.le_refl _) _).alloc (by simp) _).alloc (by simp; omega) _).alloc (by simp; omega) _).alloc (by simp; omega) _
    · exact ((((Blk.newAt _ _ _ _ rfl).alloc _).alloc _).alloc _).alloc _
    · exact (HR1.out.alloc _).alloc _
    · exact (HR2.out.alloc _).alloc _
    · exact (Blk.newAt _ _ _ _ (by simp)).alloc _
    · exact Blk.newAt _ _ _ _ (by simp)
  case round =>
    obtain ⟨t, ht, rfl, hP⟩ := hrel
    have HP := Lib.hid hP
    by_cases hlt : t < 64
    · have hx := hP.2.2.1.cell t hlt
      have hk := hP.2.2.2.1.cell t hlt
      obtain ⟨v, hv⟩ : ∃ v, v = mixN (fun i => ks.getD i 0) ws s t := ⟨_, rfl⟩
      have hb := hP.2.2.2.2.2
      rw [← hv] at hb
      have b0 := hb.cell 0
      have b1 := hb.cell 1
      have b2 := hb.cell 2
      have b3 := hb.cell 3
      have b4 := hb.cell 4
      have b5 := hb.cell 5
      have b6 := hb.cell 6
      have b7 := hb.cell 7
      have g0 := hb.free 0
      have g1 := hb.free 1
      have g2 := hb.free 2
      have g3 := hb.free 3
      have g4 := hb.free 4
      have g5 := hb.free 5
      have g6 := hb.free 6
      have g7 := hb.free 7
      simp only [St.arr, List.getElem?_toArray, List.getElem?_cons_zero, List.getElem?_cons_succ] at b0 b1 b2 b3 b4 b5 b6 b7
      obtain ⟨k, ek⟩ : ∃ k, k = ks.getD t 0 := ⟨_, rfl⟩
      obtain ⟨x, ex⟩ : ∃ x, x = ws.getD t 0 := ⟨_, rfl⟩
      rw [← ek] at hk
      rw [← ex] at hx
      have Ek := Lib.hid ek
      have Ex := Lib.hid ex
      have Hv := Lib.hid hv
      obtain ⟨va, vb, vc, vd, ve, vf, vg, vh⟩ := v
      clear ek ex hv hb hP
      go_wp2_with fail
      go_quiet (first
        | (go_at_call 51; with_reducible exact turn_6q _ _ _)
        | (go_at_call 51; with_reducible exact turn_11q _ _ _)
        | (go_at_call 51; with_reducible exact turn_25q _ _ _))
      obtain ⟨n1, en1⟩ : ∃ m, m = nq := ⟨_, rfl⟩
      rw [← en1]
      clear en1
      go_wp2_with fail
      refine (turn_2 _ _).mono ?_
      rintro e w' ⟨rfl, rfl⟩
      go_wp2_with fail
      refine (turn_13 _ _).mono ?_
      rintro e w' ⟨rfl, rfl⟩
      go_wp2_with fail
      refine (turn_22 _ _).mono ?_
      rintro e w' ⟨rfl, rfl⟩
      go_wp2_with fail
      go_roundw
      case rel =>
        refine ⟨t + 1, by omega, by go_num, ?_⟩
        refine (HP.out.drewN n1).step _ _ _ _ _ _ _ _ ?_
        rw [mixN, ← Hv.out, ← Ek.out, ← Ex.out]
        simp only [mixStep, mixT1]
        simp
        exact congrArg (· % 4294967296) (Int.add_assoc _ _ _)
      case measure => simp [intOf] <;> omega
    · have ht64 : t = 64 := by omega
      subst ht64
      have hz0 := hP.2.2.2.2.1
      have Hz0 := Lib.hid hz0
      obtain ⟨z, ez⟩ : ∃ z, z = mixN (fun i => ks.getD i 0) ws s 64 := ⟨_, rfl⟩
      have hvt : RowA .u32 71 wr (w.heap.size + 1 + 1 + 1 + 1) 8 (addF z s 0) := by
        rw [ez]; exact St.row hP.2.2.2.2.2
      have hst : RowA .u32 71 wr w.heap.size 8 (fun j => s.list.getD j 0) := St.row hP.2.1
      have hbl := hP.1
      have Hst := Lib.hid hst
      have Hvt := Lib.hid hvt
      have Hbl := Lib.hid hbl
      have Hz := Lib.hid ez
      clear hP HP hst hvt hbl ez hz0
      go_wp2_with fail
      go_loopw [15] (fun i wr => ∃ t : Nat, t ≤ 8 ∧ i = .int .i64 t ∧ Below w.heap.size w wr ∧ RowA .u32 71 wr (w.heap.size + 1 + 1 + 1 + 1) 8 (addF z s t) ∧ RowA .u32 71 wr w.heap.size 8 (fun j => s.list.getD j 0) ∧ Blk wr (w.heap.size + 1 + 1 + 1) 71 st0.arr) (fun i _ => 8 - (intOf i).toNat)
      case atStart => exact ⟨0, by omega, rfl, Hbl.out, Hvt.out, Hst.out, Hz0.out⟩
      case round =>
        clear Hz0
        obtain ⟨t, ht, rfl, hb, hs, hz, hz0⟩ := hrel
        have Hz0 := Lib.hid hz0
        by_cases hlt : t < 8
        · have c0 := hs.cell t hlt
          have c1 := hz.cell t hlt
          have f0 := hs.free t
          have Hb := Lib.hid hb
          have Hs := Lib.hid hs
          have Hzz := Lib.hid hz
          obtain ⟨x, ex⟩ : ∃ a, a = addF z s t t := ⟨_, rfl⟩
          obtain ⟨y, ey⟩ : ∃ a, a = s.list.getD t 0 := ⟨_, rfl⟩
          rw [← ex] at c0
          rw [← ey] at c1
          have E0 := Lib.hid ex
          have E1 := Lib.hid ey
          clear ex ey hb hs hz hz0
          go_wp2_with fail
          go_region
          go_wp2
          go_roundw
          case rel =>
            refine ⟨t + 1, by omega, by go_num, (Hb.out.setCell (by simp; omega) _).drew, ?_, RowA.drewN (Hzz.out.far (by simp; omega) _) 1, Blk.drewN (Hz0.out.far (by simp) _) 1⟩
            refine RowA.drewN ((Hs.out.put t _).congr (fun j hj => ?_)) 1
            by_cases e : j = t
            · subst e
              rw [if_pos rfl, E0.out, E1.out]
              unfold addF
              rw [if_neg (by omega), if_pos (by omega)]
            · rw [if_neg e]
              unfold addF
              by_cases e2 : j < t
              · rw [if_pos e2, if_pos (by omega)]
              · rw [if_neg e2, if_neg (by omega)]
          case measure => simp [intOf] <;> omega
        · have ht8 : t = 8 := by omega
          subst ht8
          have hbs := addF_all hs
          have Hbs := Lib.hid hbs
          have Hb := Lib.hid hb
          clear hs hz hz0 hbs hb
          obtain ⟨ar, ear⟩ : ∃ ar, ar = (addSt z s).arr := ⟨_, rfl⟩
          have k1 : (Tryd.prog.info? 71).map (·.size) = some ar.size := by rw [ear]; exact st8_size
          have k2 : st0.arr.size = ar.size := by rw [ear]; rfl
          have k3 : ar.all (·.oneCell') = true := by rw [ear]; exact sh_one .u32 (addSt z s).list
          have hm : ar = (addSt s (mixN (fun i => ks.getD i 0) ws s 64)).arr := by rw [ear, ← Hz.out, addSt_comm]
          rw [← ear] at Hbs
          have K1 := Lib.hid k1
          have K2 := Lib.hid k2
          have K3 := Lib.hid k3
          have Hm := Lib.hid hm
          clear k1 k2 k3 hm ear
          go_wp2_with (first | (with_reducible refine wpList_load_row rfl 71 (.tmp 7) rfl _ rfl 71 ar (0, 0) _ Hbs.out.out Tryd.underlying71 rfl K1.out ?_) | (with_reducible refine wpList_store_row rfl 71 (.tmp 6) (.tmp 114) rfl _ ar rfl rfl 71 st0.arr Hz0.out.out K1.out K2.out K3.out ?_))
          refine bodyPost_ret (v := .agg ar) (results_cell_row (t := 71) (fr := (0, 0)) rfl _ _ (w.heap.size + 1 + 1 + 1) _ _ rfl (Hz0.out.setRow _).out Tryd.underlying71 rfl ?_) rfl ⟨by rw [Hm.out]; rfl, ?_⟩
          · exact K1.out
          · exact below_setRow Hb.out (by omega) _
end Go.Proofs.YtjcinelcocmpnaaDoor
