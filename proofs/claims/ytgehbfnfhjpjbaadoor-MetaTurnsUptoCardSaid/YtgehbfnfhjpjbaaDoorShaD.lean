/- One chunk mixed into the state. -/
import Derived.Test.YtgehbfnfhjpjbaaDoorShaC
namespace Go.Proofs.YtgehbfnfhjpjbaaDoor
open Go.RowKit
set_option linter.unusedVariables false
set_option linter.unusedSimpArgs false
/-- The eight words. -/
structure St where
  a : Int
  b : Int
  c : Int
  d : Int
  e : Int
  f : Int
  g : Int
  h : Int
def St.list (v : St) : List Int := [v.a, v.b, v.c, v.d, v.e, v.f, v.g, v.h]
def St.arr (v : St) : Array Value := #[.int .u32 v.a, .int .u32 v.b, .int .u32 v.c, .int .u32 v.d, .int .u32 v.e, .int .u32 v.f, .int .u32 v.g, .int .u32 v.h]
def st0 : St := ⟨0, 0, 0, 0, 0, 0, 0, 0⟩
theorem below_drewN {B : Nat} {a w : World} (h : Below B a w) (n : Nat) : Below B a (w.drewN n) := ⟨h.os, h.tape, h.output, h.size, h.block⟩
theorem sh_size8 : (Tryd.prog.info? 98).map (·.size) = some 64 := by kernel_rfl
theorem st_size : (Tryd.prog.info? 96).map (·.size) = some 8 := by kernel_rfl
def mixT1 (v : St) (k x : Int) : Int := v.h + bits .xor .u32 (bits .xor .u32 (rotF v.e 6) (rotF v.e 11)) (rotF v.e 25) + bits .xor .u32 (bits .and .u32 v.e v.f) (bits .and .u32 (bits .xor .u32 IntKind.u32.max v.e) v.g) + k + x
def mixStep (v : St) (k x : Int) : St :=
  ⟨(mixT1 v k x + bits .xor .u32 (bits .xor .u32 (rotF v.a 2) (rotF v.a 13)) (rotF v.a 22) + bits .xor .u32 (bits .xor .u32 (bits .and .u32 v.a v.b) (bits .and .u32 v.a v.c)) (bits .and .u32 v.b v.c)) % 4294967296, v.a, v.b, v.c, (v.d + mixT1 v k x) % 4294967296, v.e, v.f, v.g⟩
def mixN (K : Nat → Int) (ws : List Int) (s : St) : Nat → St
  | 0 => s
  | t + 1 => mixStep (mixN K ws s t) (K t) (ws.getD t 0)
/-- Two states added, word by word. -/
def addSt (s v : St) : St := ⟨(s.a + v.a) % 4294967296, (s.b + v.b) % 4294967296, (s.c + v.c) % 4294967296, (s.d + v.d) % 4294967296, (s.e + v.e) % 4294967296, (s.f + v.f) % 4294967296, (s.g + v.g) % 4294967296, (s.h + v.h) % 4294967296⟩
theorem addSt_at (s v : St) (i : Nat) (h : i < 8) : (addSt s v).list.getD i 0 = (s.list.getD i 0 + v.list.getD i 0) % 4294967296 := by
  have : i = 0 ∨ i = 1 ∨ i = 2 ∨ i = 3 ∨ i = 4 ∨ i = 5 ∨ i = 6 ∨ i = 7 := by omega
  rcases this with rfl | rfl | rfl | rfl | rfl | rfl | rfl | rfl <;> rfl
def addF (s v : St) (i j : Nat) : Int := if j < i then (s.list.getD j 0 + v.list.getD j 0) % 4294967296 else s.list.getD j 0
theorem St.row {w : World} {B : Nat} {t : TypeId} {v : St} (h : Blk w B t v.arr) : RowA .u32 t w B 8 (fun j => v.list.getD j 0) :=
  ⟨_, h, rfl, fun i hi => aggOf_at .u32 v.list i hi⟩
theorem addF_all {w : World} {B : Nat} {t : TypeId} {s v : St} (h : RowA .u32 t w B 8 (addF s v 8)) : Blk w B t (addSt s v).arr :=
  RowA.arr (l := (addSt s v).list) (h.congr fun i hi => by unfold addF; rw [if_pos hi, addSt_at s v i hi])
/-- What mix hands back. -/
def mixS (K : Nat → Int) (s : St) (c : List Int) : St := addSt s (mixN K (schL c 64) s 64)
theorem Blk.set8 {w : World} {B : Nat} {t : TypeId} {v : St} (h : Blk w B t v.arr) (a b c d e f g k : Int) :
    Blk ((((((((w.setCell ⟨B, 0, none⟩ (.int .u32 a)).setCell ⟨B, 1, none⟩ (.int .u32 b)).setCell ⟨B, 2, none⟩ (.int .u32 c)).setCell ⟨B, 3, none⟩ (.int .u32 d)).setCell ⟨B, 4, none⟩ (.int .u32 e)).setCell ⟨B, 5, none⟩ (.int .u32 f)).setCell ⟨B, 6, none⟩ (.int .u32 g)).setCell ⟨B, 7, none⟩ (.int .u32 k)) B t (St.mk a b c d e f g k).arr :=
  by
  have := (((((((h.set 0 (.int .u32 a)).set 1 (.int .u32 b)).set 2 (.int .u32 c)).set 3 (.int .u32 d)).set 4 (.int .u32 e)).set 5 (.int .u32 f)).set 6 (.int .u32 g)).set 7 (.int .u32 k)
  simpa [St.arr] using this
/-- The loops of mix, behind t rounds. -/
def MxA (s : St) (ws : List Int) (K : Nat → Int) (B1 t : Nat) (w wr : World) : Prop :=
  Below w.heap.size w wr ∧ B1 + 1 < wr.heap.size ∧ RowG .u32 wr 1 64 K ∧ RowA .u32 105 wr B1 64 (fun i => ws.getD i 0) ∧ Blk wr w.heap.size 96 s.arr ∧ Blk wr (B1 + 1) 96 (mixN K ws s t).arr ∧ Blk wr (w.heap.size + 1 + 1) 96 st0.arr
theorem MxA.step {s : St} {ws : List Int} {K : Nat → Int} {B1 t : Nat} {w wr : World} (h : MxA s ws K B1 t w wr) (hB : w.heap.size + 1 + 1 < B1) (hg : 1 < w.heap.size) (n : Nat) (a b c d e f g k : Int) (hv : mixN K ws s (t + 1) = ⟨a, b, c, d, e, f, g, k⟩) :
    MxA s ws K B1 (t + 1) w (((((((((wr.drewN n).setCell ⟨B1 + 1, 0, none⟩ (.int .u32 a)).setCell ⟨B1 + 1, 1, none⟩ (.int .u32 b)).setCell ⟨B1 + 1, 2, none⟩ (.int .u32 c)).setCell ⟨B1 + 1, 3, none⟩ (.int .u32 d)).setCell ⟨B1 + 1, 4, none⟩ (.int .u32 e)).setCell ⟨B1 + 1, 5, none⟩ (.int .u32 f)).setCell ⟨B1 + 1, 6, none⟩ (.int .u32 g)).setCell ⟨B1 + 1, 7, none⟩ (.int .u32 k)) := by
  obtain ⟨h1, h2, h3, h4, h5, h6, h7⟩ := h
  have q : w.heap.size ≤ B1 + 1 := by omega
  refine ⟨(((((((((below_drewN h1 n)).setCell q _).setCell q _).setCell q _).setCell q _).setCell q _).setCell q _).setCell q _).setCell q _, by simpa [size_setCell] using h2, ?_, ?_, ?_, ?_, ?_⟩
  · have q : 1 ≠ B1 + 1 := by omega
    exact ((((((((h3.drewN n).far q _).far q _).far q _).far q _).far q _).far q _).far q _).far q _
  · have q : B1 ≠ B1 + 1 := by omega
    exact ((((((((h4.drewN n).far q _).far q _).far q _).far q _).far q _).far q _).far q _).far q _
  · have q : w.heap.size ≠ B1 + 1 := by omega
    exact ((((((((h5.drewN n).far q _).far q _).far q _).far q _).far q _).far q _).far q _).far q _
  · rw [hv]
    exact Blk.set8 (Blk.drewN h6 n) a b c d e f g k
  · have q : w.heap.size + 1 + 1 ≠ B1 + 1 := by omega
    exact Blk.far (Blk.far (Blk.far (Blk.far (Blk.far (Blk.far (Blk.far (Blk.far (Blk.drewN h7 n) q _) q _) q _) q _) q _) q _) q _) q _
set_option maxHeartbeats 1000000 in
set_option maxRecDepth 100000 in
theorem mix_ok (s : St) (c : List Int) (K : Nat → Int) (w : World) (hc : c.length = 64) (hK : RowG .u32 w 1 64 K) :
    Calls Tryd.prog 31 #[.agg #[.int .u32 s.a, .int .u32 s.b, .int .u32 s.c, .int .u32 s.d, .int .u32 s.e, .int .u32 s.f, .int .u32 s.g, .int .u32 s.h], .agg (c.map (Value.int .u8)).toArray] w fun e w' => e = .returned (.agg (mixS K s c).arr) ∧ Below w.heap.size w w' := by
  obtain ⟨arr, ea⟩ : ∃ arr, arr = (c.map (Value.int .u8)).toArray := ⟨_, rfl⟩
  rw [← ea]
  have Hea := Lib.hid ea
  have Hc := Lib.hid hc
  have HK := Lib.hid hK
  have hsz : arr.size = 64 := by rw [ea]; simp [hc]
  have Hsz := Lib.hid hsz
  clear ea hc hK hsz
  go_enter Tryd.func31, Tryd.ntmps31
  go_wp2_with (with_reducible refine wpList_load_row rfl 98 (.tmp 3) rfl (w.heap.size + 1) rfl 98 arr (0, 0) _ ?c0 Tryd.underlying98 rfl ?c1 ?_)
  case c0 => exact ((Blk.newAt _ _ _ _ (by simp)).alloc _).out
  case c1 => rw [Hsz.out]; first | exact sh_size8 | exact Option.map_eq_some_iff.1 sh_size8
  rw [Hea.out]
  refine (schedule_ok c _ Hc.out).mono ?_
  rintro e w1 ⟨rfl, hb1⟩
  have hs1 : w.heap.size + 1 + 1 + 1 ≤ w1.heap.size := by have := hb1.size; simp at this; omega
  obtain ⟨sa, esa⟩ : ∃ sa, sa = ((schL c 64).map (Value.int .u32)).toArray := ⟨_, rfl⟩
  have hsa : sa.size = 64 := by rw [esa]; simp [schL_length]
  have Hsa := Lib.hid hsa
  have Hesa := Lib.hid esa
  have HB1 := Lib.hid hb1
  unfold aggOf
  rw [← esa]
  have hsb : Blk w1 w.heap.size 96 s.arr := ((((Blk.newAt _ _ _ _ rfl).alloc _).alloc _) : Blk (((w.alloc (.cells s.arr 96)).alloc (.cells (c.map (Value.int .u8)).toArray 98)).alloc _) _ _ _).below hb1 (by simp; omega)
  have Hsb := Lib.hid hsb
  clear hsa esa hb1 hsb
  have z1 : (Tryd.prog.info? 105).map (·.size) = some sa.size := by rw [Hsa.out]; exact sh_size
  have z2 : (Array.replicate 64 (Value.int .u32 0)).size = sa.size := by rw [Hsa.out]; rfl
  have z3 : sa.all (·.oneCell') = true := by rw [Hesa.out]; exact sh_one _ _
  have Z1 := Lib.hid z1
  have Z2 := Lib.hid z2
  have Z3 := Lib.hid z3
  clear z1 z2 z3
  go_wp2_with (first | (refine wpList_store_row rfl 105 (.tmp 5) (.tmp 17) rfl w1.heap.size sa rfl rfl 105 (Array.replicate 64 (.int .u32 0)) (Blk.newAt w1 w1.heap.size _ (Array.replicate 64 (.int .u32 0)) rfl) Z1.out Z2.out Z3.out ?_; rw [World.setRow_alloc_new]) | (refine wpList_load_row rfl 96 (.tmp 2) rfl w.heap.size rfl 96 #[.int .u32 s.a, .int .u32 s.b, .int .u32 s.c, .int .u32 s.d, .int .u32 s.e, .int .u32 s.f, .int .u32 s.g, .int .u32 s.h] (0, 0) _ (Hsb.out.alloc _).out Tryd.underlying96 rfl st_size ?_))
  go_loopw [7, 8, 9, 10, 11, 12, 13, 14, 19] (fun _ _ _ _ _ _ _ _ i wr => ∃ t : Nat, t ≤ 64 ∧ i = .int .i64 t ∧ MxA s (schL c 64) K w1.heap.size t w wr) (fun _ _ _ _ _ _ _ _ i _ => 64 - (intOf i).toNat)
  case atStart =>
    have h1 := HB1.out
    have e1 : Below w.heap.size w w1 := ((((Below.refl _ _).alloc (Nat.le_refl _) _).alloc (by simp) _).alloc (by simp; omega) _).trans (h1.mono (by simp; omega))
    refine ⟨0, by omega, rfl, ?_, by simp, ?_, ?_, ?_, ?_, ?_⟩
    · exact (e1.alloc (by omega) _).alloc (by simp; omega) _
    · exact ((HK.out.below e1 HK.out.lt).alloc _).alloc _
    · refine RowA.alloc ?_ _
      rw [Hesa.out]
      have := row_of_list .u32 105 w1 (schL c 64)
      rw [schL_length] at this
      exact this
    · exact (Hsb.out.alloc _).alloc _
    · exact Blk.newAt _ _ _ _ (by simp)
    · have h0 : Blk (((w.alloc (.cells s.arr 96)).alloc (.cells (c.map (Value.int .u8)).toArray 98)).alloc (.cells st0.arr 96)) (w.heap.size + 1 + 1) 96 st0.arr := Blk.newAt _ _ _ _ (by simp)
      exact ((h0.below h1 (by simp)).alloc _).alloc _
  case round =>
    obtain ⟨t, ht, rfl, hP⟩ := hrel
    have HP := Lib.hid hP
    by_cases hlt : t < 64
    · have hk := hP.2.2.1.cell t hlt
      have hx := hP.2.2.2.1.cell t hlt
      obtain ⟨v, hv⟩ : ∃ v, v = mixN K (schL c 64) s t := ⟨_, rfl⟩
      have hb := hP.2.2.2.2.2.1
      rw [← hv] at hb
      have b0 := hb.cell 0
      have b1 := hb.cell 1
      have b2 := hb.cell 2
      have b3 := hb.cell 3
      have b4 := hb.cell 4
      have b5 := hb.cell 5
      have b6 := hb.cell 6
      have b7 := hb.cell 7
      have g0 := hb.free 0
      have g1 := hb.free 1
      have g2 := hb.free 2
      have g3 := hb.free 3
      have g4 := hb.free 4
      have g5 := hb.free 5
      have g6 := hb.free 6
      have g7 := hb.free 7
      simp only [St.arr, List.getElem?_toArray, List.getElem?_cons_zero, List.getElem?_cons_succ] at b0 b1 b2 b3 b4 b5 b6 b7
      obtain ⟨k, ek⟩ : ∃ k, k = K t := ⟨_, rfl⟩
      obtain ⟨x, ex⟩ : ∃ x, x = (schL c 64).getD t 0 := ⟨_, rfl⟩
      rw [← ek] at hk
      rw [← ex] at hx
      have Ek := Lib.hid ek
      have Ex := Lib.hid ex
      have Hv := Lib.hid hv
      have Hb := Lib.hid hb
      obtain ⟨va, vb, vc, vd, ve, vf, vg, vh⟩ := v
      clear ek ex hv hb hP
      go_wp2_with fail
      go_quiet (fail)
      go_wp2_with fail
      refine (rotr_6 _ _).mono ?_
      rintro e w' ⟨rfl, rfl⟩
      go_wp2_with fail
      refine (rotr_11 _ _).mono ?_
      rintro e w' ⟨rfl, rfl⟩
      go_wp2_with fail
      refine (rotr_25 _ _).mono ?_
      rintro e w' ⟨rfl, rfl⟩
      go_wp2_with fail
      refine (rotr_2 _ _).mono ?_
      rintro e w' ⟨rfl, rfl⟩
      go_wp2_with fail
      refine (rotr_13 _ _).mono ?_
      rintro e w' ⟨rfl, rfl⟩
      go_wp2_with fail
      refine (rotr_22 _ _).mono ?_
      rintro e w' ⟨rfl, rfl⟩
      go_wp2_with fail
      go_quiet (fail)
      go_wp2_with fail
      go_roundw
      case rel =>
        refine ⟨t + 1, by omega, by go_num, ?_⟩
        refine HP.out.step (by omega) HK.out.lt _ _ _ _ _ _ _ _ _ ?_
        rw [mixN, ← Hv.out, ← Ek.out, ← Ex.out]
        simp only [mixStep, mixT1]
      case measure => simp [intOf] <;> omega
    · have ht64 : t = 64 := by omega
      have hz0 := hP.2.2.2.2.2.2
      have Hz0 := Lib.hid hz0
      have hst : RowA .u32 96 wr w.heap.size 8 (addF s (mixN K (schL c 64) s 64) 0) := St.row hP.2.2.2.2.1
      have hvt : RowA .u32 96 wr (w1.heap.size + 1) 8 (fun j => (mixN K (schL c 64) s 64).list.getD j 0) := by
        have := St.row hP.2.2.2.2.2.1
        rw [ht64] at this
        exact this
      have hbl := hP.1
      have Hst := Lib.hid hst
      have Hvt := Lib.hid hvt
      have Hbl := Lib.hid hbl
      obtain ⟨z, ez⟩ : ∃ z, z = mixN K (schL c 64) s 64 := ⟨_, rfl⟩
      have Hz := Lib.hid ez
      rw [← ez] at Hst Hvt
      clear hP HP hst hvt hbl ez ht64 hz0
      go_wp2_with fail
      go_loopw [15, 102] (fun _ i wr => ∃ t : Nat, t ≤ 8 ∧ i = .int .i64 t ∧ Below w.heap.size w wr ∧ RowA .u32 96 wr w.heap.size 8 (addF s z t) ∧ RowA .u32 96 wr (w1.heap.size + 1) 8 (fun j => z.list.getD j 0) ∧ Blk wr (w.heap.size + 1 + 1) 96 st0.arr) (fun _ i _ => 8 - (intOf i).toNat)
      case atStart => exact ⟨0, by omega, rfl, Hbl.out, Hst.out, Hvt.out, Hz0.out⟩
      case round =>
        clear Hz0
        obtain ⟨t, ht, rfl, hb, hs, hz, hz0⟩ := hrel
        have Hz0 := Lib.hid hz0
        by_cases hlt : t < 8
        · have c0 := hs.cell t hlt
          have c1 := hz.cell t hlt
          have f0 := hs.free t
          have Hb := Lib.hid hb
          have Hs := Lib.hid hs
          have Hzz := Lib.hid hz
          obtain ⟨x, ex⟩ : ∃ a, a = addF s z t t := ⟨_, rfl⟩
          obtain ⟨y, ey⟩ : ∃ a, a = z.list.getD t 0 := ⟨_, rfl⟩
          rw [← ex] at c0
          rw [← ey] at c1
          have E0 := Lib.hid ex
          have E1 := Lib.hid ey
          clear ex ey hb hs hz hz0
          go_wp2_with fail
          go_region
          go_wp2
          go_roundw
          case rel =>
            refine ⟨t + 1, by omega, by go_num, (Hb.out.setCell (Nat.le_refl _) _).drew, ?_, RowA.drewN (Hzz.out.far (by simp; omega) _) 1, Blk.drewN (Hz0.out.far (by simp; omega) _) 1⟩
            refine RowA.drewN ((Hs.out.put t _).congr (fun j hj => ?_)) 1
            by_cases e : j = t
            · subst e
              rw [if_pos rfl, E0.out, E1.out]
              unfold addF
              rw [if_neg (by omega), if_pos (by omega)]
            · rw [if_neg e]
              unfold addF
              by_cases e2 : j < t
              · rw [if_pos e2, if_pos (by omega)]
              · rw [if_neg e2, if_neg (by omega)]
          case measure => simp [intOf] <;> omega
        · have ht8 : t = 8 := by omega
          subst ht8
          have hbs := addF_all hs
          have Hbs := Lib.hid hbs
          have Hb := Lib.hid hb
          clear hs hz hz0 hbs hb
          obtain ⟨ar, ear⟩ : ∃ ar, ar = (addSt s z).arr := ⟨_, rfl⟩
          have k1 : (Tryd.prog.info? 96).map (·.size) = some ar.size := by rw [ear]; exact st_size
          have k2 : st0.arr.size = ar.size := by rw [ear]; rfl
          have k3 : ar.all (·.oneCell') = true := by rw [ear]; exact sh_one .u32 (addSt s z).list
          have hm : ar = (mixS K s c).arr := by rw [ear, mixS, ← Hz.out]
          rw [← ear] at Hbs
          have K1 := Lib.hid k1
          have K2 := Lib.hid k2
          have K3 := Lib.hid k3
          have Hm := Lib.hid hm
          clear k1 k2 k3 hm ear
          go_wp2_with (first | (with_reducible refine wpList_load_row rfl 96 (.tmp 2) rfl _ rfl 96 ar (0, 0) _ Hbs.out.out Tryd.underlying96 rfl K1.out ?_) | (with_reducible refine wpList_store_row rfl 96 (.tmp 4) (.tmp 114) rfl _ ar rfl rfl 96 st0.arr Hz0.out.out K1.out K2.out K3.out ?_))
          refine bodyPost_ret (v := .agg ar) (results_cell_row (t := 96) (fr := (0, 0)) rfl _ _ (w.heap.size + 1 + 1) _ _ rfl (Hz0.out.setRow _).out Tryd.underlying96 rfl ?_) rfl ⟨by rw [Hm.out], ?_⟩
          · exact K1.out
          · exact below_setRow Hb.out (by omega) _
end Go.Proofs.YtgehbfnfhjpjbaaDoor
