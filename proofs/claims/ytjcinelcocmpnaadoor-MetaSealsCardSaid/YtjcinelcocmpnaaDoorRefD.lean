/- The digest of a list, the document's: sumWith. -/
import Derived.Test.YtjcinelcocmpnaaDoorRefB
import Derived.Test.YtjcinelcocmpnaaDoorRefP
namespace Go.Proofs.YtjcinelcocmpnaaDoor
open Go.RowKit
set_option linter.unusedVariables false
set_option linter.unusedSimpArgs false
theorem still_load {P : Program} {ops : Array Oper} {w : World} {Q : Act → Prop} {a : Act} {o : Oper} {rest : List Oper} (hgd : o.guard = none) (ty : TypeId) (x : Operand) (ho : o.op = .load ty x)
    (b off : Nat) (hx : a.eval x = .pointer (some ⟨b, off, none⟩)) (cs : List Value) (d : TypeDesc) (hc : w.rangeAt b off cs)
    (hu : P.underlying ty = some d) (hd : d.isRow = true) (hi : (P.info? ty).map (·.size) = some cs.length)
    (h : wpStill P ops w Q rest (a.put o.dst (.agg cs.toArray))) : wpStill P ops w Q (o :: rest) a := by
  refine wpStill_step fun K hK => ?_
  have hw : Region.wanted o (yielded ops a.tmps) = true := by simp [Region.wanted, hgd]
  rw [if_pos hw]
  have hr := run_loadAt_mid w b off ty cs d hc hu hd hi
  unfold Oper.still execOp
  simp only [ho, hx, Sem.run_bind, hr, Result.andThen_ok, Sem.run_pure]
  rw [Oper.stillUpon_value]
  exact hK _ h
theorem Blk.range {w : World} {g : Nat} {t : TypeId} {cs : List Value} (h : Blk w g t cs.toArray) : w.rangeAt g 0 cs := fun j v hj => by
  rw [Nat.zero_add, h.cell j, List.getElem?_toArray]; exact hj
/-- The loop that lays out the sum. -/
def SoA (B8 B11 k : Nat) (st : St) (w wr : World) : Prop :=
  Below w.heap.size w wr ∧ Blk wr B8 71 st.arr ∧ RowA .u8 44 wr (w.heap.size + 1 + 1) 32 (fun _ => 0) ∧ RowA .u8 44 wr B11 32 (fun j => if j < k then (sumL st).getD j 0 else 0)
theorem SoA.drew {B8 B11 k : Nat} {st : St} {w wr : World} (h : SoA B8 B11 k st w wr) : SoA B8 B11 k st w wr.drew := ⟨h.1.drew, h.2.1, h.2.2.1, h.2.2.2⟩
theorem SoA.step {B8 B11 k : Nat} {st : St} {w wr : World} (h : SoA B8 B11 k st w wr) (h1 : w.heap.size + 1 + 1 < B8) (h2 : B8 < B11) (y : Int) (hy : y = (sumL st).getD k 0) : SoA B8 B11 (k + 1) st w (wr.setCell ⟨B11, k, none⟩ (.int .u8 y)) := by
  obtain ⟨g1, g2, g3, g4⟩ := h
  refine ⟨g1.setCell (by show w.heap.size ≤ B11; omega) _, g2.far (by show B8 ≠ B11; omega) _, g3.far (by show w.heap.size + 1 + 1 ≠ B11; omega) _, (g4.put k y).congr fun j hj => ?_⟩
  by_cases e : j = k
  · subst e; rw [if_pos rfl, if_pos (by omega), hy]
  · rw [if_neg e]
    by_cases e2 : j < k
    · rw [if_pos e2, if_pos (by omega)]
    · rw [if_neg e2, if_neg (by omega)]
/-- The loop over the chunks. -/
def SwA (K : Nat → Int) (S : St) (ks l : List Int) (g B8 m : Nat) (w wr : World) : Prop :=
  Below w.heap.size w wr ∧ w.heap.size + 1 + 1 < B8 ∧ B8 < wr.heap.size ∧ g < B8 ∧ w.heap.size ≤ g ∧ (∀ i, i < l.length → wr.cell? ⟨g, i, none⟩ = some (.int .u8 (l.getD i 0))) ∧
  RowA .u32 72 wr (w.heap.size + 1) 64 (fun i => ks.getD i 0) ∧ RowA .u8 44 wr (w.heap.size + 1 + 1) 32 (fun _ => 0) ∧ Blk wr B8 71 (blkN K S l m).arr
set_option maxHeartbeats 2000000 in
set_option maxRecDepth 100000 in
theorem sumWith_ok (S : St) (ks : List Int) (b off c : Nat) (xs : List Int) (w : World) (hk : ks.length = 64) (hb : b < w.heap.size) (h0 : 0 < xs.length) (hn : xs.length ≤ 4096) (hc : ∀ i, i < xs.length → w.cell? ⟨b, off + i, none⟩ = some (.int .u8 (xs.getD i 0))) :
    Calls Tryd.prog 42 #[.slice (some ⟨b, off, none⟩) xs.length c, .agg S.arr, .agg (ks.map (Value.int .u32)).toArray] w fun e w' => e = .returned (aggOf .u8 (shaF (fun i => ks.getD i 0) S xs)) ∧ Below w.heap.size w w' := by
  obtain ⟨ka, eka⟩ : ∃ arr, arr = (ks.map (Value.int .u32)).toArray := ⟨_, rfl⟩
  obtain ⟨z32, hz32, e32⟩ : ∃ zc : Array Value, (∀ w, (zeroValue 44).run Tryd.prog w = .ok (.agg zc) w) ∧ zc = (List.replicate 32 (Value.int .u8 0)).toArray :=
    ⟨(List.replicate 32 (Value.int .u8 0)).toArray, fun w => by kernel_rfl, rfl⟩
  rw [← eka]
  obtain ⟨wA, ewA⟩ : ∃ wA, wA = ((w.alloc (.cells S.arr 71)).alloc (.cells ka 72)).alloc (.cells z32 44) := ⟨_, rfl⟩
  have hbA : Below w.heap.size w wA := by rw [ewA]; exact (((Below.refl _ _).alloc (Nat.le_refl _) _).alloc (by simp) _).alloc (by simp; omega) _
  have hSA : Blk wA w.heap.size 71 S.arr := by rw [ewA]; exact ((Blk.newAt _ _ _ _ rfl).alloc _).alloc _
  have hKA : RowA .u32 72 wA (w.heap.size + 1) 64 (fun i => ks.getD i 0) := by
    have := row_of_list .u32 72 (w.alloc (.cells S.arr 71)) ks
    rw [hk, size_alloc, ← eka] at this
    rw [ewA]; exact this.alloc _
  have hZA : RowA .u8 44 wA (w.heap.size + 1 + 1) 32 (fun _ => 0) := by
    rw [ewA]
    exact ⟨z32, Blk.newAt _ _ _ _ (by simp), by rw [e32]; rfl, fun i hi => by rw [e32, List.getElem?_toArray, List.getElem?_replicate, if_pos hi]⟩
  have hpd := padded_ok b off c xs wA (Nat.lt_of_lt_of_le hb hbA.size) h0 hn (fun i hi => (hbA.cell (p := ⟨b, off + i, none⟩) hb).trans (hc i hi))
  obtain ⟨n, en⟩ : ∃ n, n = xs.length := ⟨_, rfl⟩
  rw [← en] at hpd ⊢
  have hz0 : z32.size = 32 ∧ ∀ i, i < 32 → z32[i]? = some (.int .u8 0) := ⟨by rw [e32]; rfl, fun i hi => by rw [e32, List.getElem?_toArray, List.getElem?_replicate, if_pos hi]⟩
  have HZ32 := Lib.hid hz0
  have HPD := Lib.hid hpd
  have HBA := Lib.hid hbA
  have HSA := Lib.hid hSA
  have HKA := Lib.hid hKA
  have HZA := Lib.hid hZA
  have EN := Lib.hid en
  have EKA := Lib.hid eka
  have HK := Lib.hid hk
  have h0' : 0 < n := by omega
  have hn' : n ≤ 4096 := by omega
  simp only [St.arr] at ewA ⊢
  have EWA := Lib.hid ewA
  clear hz0 hpd hbA hSA hKA hZA en eka hk ewA hc e32 h0 hn
  go_enter Tryd.func42, Tryd.ntmps42
  go_wp2_with fail
  rw [← EWA.out]
  refine HPD.out.mono ?_
  rintro e w1 ⟨u, rfl, hl, hbe, hown⟩
  have hlen := padF_length xs
  rw [← EN.out] at hlen
  obtain ⟨l, el⟩ : ∃ l, l = padF xs := ⟨_, rfl⟩
  obtain ⟨N, eN⟩ : ∃ N, N = (padF xs).length := ⟨_, rfl⟩
  rw [← eN] at hown hlen
  obtain ⟨g, cap, rfl, hg1, hg2, hg3, _, hgc⟩ := own_cells hown (by omega)
  have hcell : ∀ i, i < N → w1.cell? ⟨g, i, none⟩ = some (.int .u8 (l.getD i 0)) := by
    intro i hi
    rw [hgc i hi, List.getElem?_map, el, List.getD_eq_getElem?_getD, List.getElem?_eq_getElem (by omega)]
    rfl
  have hb1 : Below w.heap.size w w1 := HBA.out.trans (hbe.mono HBA.out.size)
  have hS1 : Blk w1 w.heap.size 71 S.arr := HSA.out.below hbe HSA.out.lt
  have hK1 := HKA.out.below hbe HKA.out.lt
  have hZ1 := HZA.out.below hbe HZA.out.lt
  have hs1 : w.heap.size + 1 + 1 < wA.heap.size := HZA.out.lt
  have b0 := hS1.cell 0
  have b1 := hS1.cell 1
  have b2 := hS1.cell 2
  have b3 := hS1.cell 3
  have b4 := hS1.cell 4
  have b5 := hS1.cell 5
  have b6 := hS1.cell 6
  have b7 := hS1.cell 7
  simp only [St.arr, List.getElem?_toArray, List.getElem?_cons_zero, List.getElem?_cons_succ] at b0 b1 b2 b3 b4 b5 b6 b7
  have hs2 : w.heap.size < w1.heap.size := hS1.lt
  have HCell := Lib.hid hcell
  have HB1 := Lib.hid hb1
  have HK1 := Lib.hid hK1
  have HZ1 := Lib.hid hZ1
  have EL := Lib.hid el
  have ENN := Lib.hid eN
  obtain ⟨hl1, hl2, hl3⟩ := hlen
  clear hl hbe hown hgc hcell hb1 hS1 hK1 hZ1 el eN HPD HSA HKA HZA HBA
  go_wp2_with fail
  go_loopw [9, 10] (fun i _ wr => ∃ m : Nat, 64 * m ≤ N ∧ i = .int .i64 ((64 * m : Nat) : Int) ∧ SwA (fun i => ks.getD i 0) S ks l g w1.heap.size m w wr) (fun i _ _ => N - (intOf i).toNat)
  case atStart =>
    refine ⟨0, by omega, rfl, HB1.out.alloc (by omega) _, by omega, by simp, hg2, by omega, fun i hi => ?_, HK1.out.alloc _, HZ1.out.alloc _, Blk.newAt _ _ _ _ rfl⟩
    rw [cell_of_heap (Below.heap_alloc _ _ _ hg2)]
    exact HCell.out i (by rw [ENN.out, ← EL.out]; exact hi)
  case round =>
    obtain ⟨m, hm, rfl, hP⟩ := hrel
    have HP := Lib.hid hP
    clear b0 b1 b2 b3 b4 b5 b6 b7
    have hs3 := hP.2.2.1
    have hs4 := hP.2.2.2.1
    obtain ⟨p, ep⟩ : ∃ p, p = 64 * m := ⟨_, rfl⟩
    rw [← ep] at hm ⊢
    have EP := Lib.hid ep
    by_cases hlt : p + 64 ≤ N
    · have hwd := words_ok (chunkAt l p) g 0 N cap p wr hlt hg3 (by omega) (by omega) (fun i hi => by
        rw [Nat.zero_add, chunkAt_at l p i hi]
        exact hP.2.2.2.2.2.1 (p + i) (by rw [EL.out, ← ENN.out]; omega))
      have HWD := Lib.hid hwd
      clear hwd hP ep
      go_wp2_with fail
      refine HWD.out.mono ?_
      rintro e w2 ⟨rfl, hb2⟩
      unfold aggOf
      obtain ⟨sa, esa⟩ : ∃ sa, sa = ((schL (chunkAt l p) 64).map (Value.int .u32)).toArray := ⟨_, rfl⟩
      have hsa : sa.size = 64 := by rw [esa]; simp [schL_length]
      rw [← esa]
      have z1 : (Tryd.prog.info? 72).map (·.size) = some sa.size := by rw [hsa]; exact sh_size
      have z2 : (Array.replicate 64 (Value.int .u32 0)).size = sa.size := by rw [hsa]; rfl
      have z3 : sa.all (·.oneCell') = true := by rw [esa]; exact sh_one _ _
      have Z1 := Lib.hid z1
      have Z2 := Lib.hid z2
      have Z3 := Lib.hid z3
      have ESA := Lib.hid esa
      have HB2 := Lib.hid hb2
      clear z1 z2 z3 esa hsa hb2 HWD
      obtain ⟨wC, ewC⟩ : ∃ wC, wC = w2.alloc (.cells sa 72) := ⟨_, rfl⟩
      have hbC : Below wr.heap.size wr wC := by rw [ewC]; exact HB2.out.alloc HB2.out.size _
      obtain ⟨st, est⟩ : ∃ st, st = blkN (fun i => ks.getD i 0) S l m := ⟨_, rfl⟩
      have hst : Blk wC w1.heap.size 71 st.arr := by rw [est]; exact HP.out.2.2.2.2.2.2.2.2.below hbC HP.out.2.2.1
      have hka : Blk wC (w.heap.size + 1) 72 ka := by
        have h := HP.out.2.2.2.2.2.2.1.below hbC (by omega)
        rw [← HK.out] at h
        rw [EKA.out]; exact h.arr
      have hsa : Blk wC w2.heap.size 72 sa := by rw [ewC]; exact Blk.newAt _ _ _ _ rfl
      have zk : (Tryd.prog.info? 72).map (·.size) = some ka.size := by rw [EKA.out]; simp only [List.size_toArray, List.length_map, HK.out]; exact sh_size
      have hck := chunk_ok st (schL (chunkAt l p) 64) ks wC (schL_length _ _) HK.out
      rw [← ESA.out, ← EKA.out] at hck
      obtain ⟨sr, esr⟩ : ∃ sr, sr = (addSt st (mixN (fun i => ks.getD i 0) (schL (chunkAt l p) 64) st 64)).arr := ⟨_, rfl⟩
      rw [← esr] at hck
      obtain ⟨sx, esx⟩ : ∃ sx, sx = st.arr := ⟨_, rfl⟩
      rw [← esx] at hst hck
      have y1 : (Tryd.prog.info? 71).map (·.size) = some sx.size := by rw [esx]; exact st8_size
      have y2 : (Tryd.prog.info? 71).map (·.size) = some sr.size := by rw [esr]; exact st8_size
      have y3 : sx.size = sr.size := by rw [esx, esr]; rfl
      have y4 : sr.all (·.oneCell') = true := by rw [esr]; exact sh_one .u32 (addSt st (mixN (fun i => ks.getD i 0) (schL (chunkAt l p) 64) st 64)).list
      have hsr : sr = (blkN (fun i => ks.getD i 0) S l (m + 1)).arr := by rw [esr, blkN, ← est, mixS, EP.out]
      have ZK := Lib.hid zk
      have Y1 := Lib.hid y1
      have Y2 := Lib.hid y2
      have Y3 := Lib.hid y3
      have Y4 := Lib.hid y4
      have HSR := Lib.hid hsr
      have HCK := Lib.hid hck
      have HST := Lib.hid hst
      have HKA2 := Lib.hid hka
      have HSA2 := Lib.hid hsa
      have HBC := Lib.hid hbC
      have EWC := Lib.hid ewC
      clear zk y1 y2 y3 y4 hsr hck hst hka hsa hbC esr esx est
      go_wp2_with (first
        | (refine wpList_store_row rfl 72 (.tmp 10) (.tmp 25) rfl w2.heap.size sa rfl rfl 72 (Array.replicate 64 (.int .u32 0)) (Blk.newAt w2 w2.heap.size _ (Array.replicate 64 (.int .u32 0)) rfl) Z1.out Z2.out Z3.out ?_; rw [World.setRow_alloc_new, ← EWC.out])
        | (with_reducible refine wpList_load_row rfl 71 (.tmp 8) rfl _ rfl 71 sx (0, 0) _ HST.out.out Tryd.underlying71 rfl Y1.out ?_)
        | (with_reducible refine wpList_load_row rfl 72 (.tmp 10) rfl _ rfl 72 sa (0, 0) _ HSA2.out.out Tryd.underlying72 rfl Z1.out ?_)
        | (with_reducible refine wpList_load_row rfl 72 (.tmp 5) rfl _ rfl 72 ka (0, 0) _ HKA2.out.out Tryd.underlying72 rfl ZK.out ?_))
      rw [← EWC.out]
      refine HCK.out.mono ?_
      rintro e wD ⟨rfl, hbD⟩
      have hbD2 : Below wr.heap.size wr wD := HBC.out.trans (hbD.mono HBC.out.size)
      have hstD : Blk wD w1.heap.size 71 sx := HST.out.below hbD HST.out.lt
      have HBD := Lib.hid hbD2
      have HSTD := Lib.hid hstD
      clear hbD hbD2 hstD HCK HST HKA2 HSA2 HBC EWC ewC
      go_wp2_with (with_reducible refine wpList_store_row rfl 71 (.tmp 8) (.tmp 29) rfl _ sr rfl rfl 71 sx HSTD.out.out Y2.out Y3.out Y4.out ?_)
      go_roundw
      case rel =>
        obtain ⟨k1, k2, k3, k4, k5, k6, k7, k8, k9⟩ := HP.out
        refine ⟨m + 1, by have := EP.out; omega, by rw [EP.out]; go_num, below_setRow (k1.trans (HBD.out.mono k1.size)) (by omega) _, k2, by rw [size_setRow]; exact Nat.lt_of_lt_of_le k3 HBD.out.size, k4, k5, fun i hi => ?_, ?_, ?_, ?_⟩
        · rw [cell_of_heap (heap_setRow wD w1.heap.size g sr (by omega)), HBD.out.cell (p := ⟨g, i, none⟩) (by show g < wr.heap.size; omega)]
          exact k6 i hi
        · exact (k7.below HBD.out (by omega)).keep (heap_setRow _ _ _ _ (by omega))
        · exact (k8.below HBD.out (by omega)).keep (heap_setRow _ _ _ _ (by omega))
        · rw [HSR.out]
          exact HSTD.out.setRow _
      case measure => simp [intOf] <;> omega
    · have hpN : p = N := by omega
      have hmN : m = N / 64 := by omega
      have hst := hP.2.2.2.2.2.2.2.2
      obtain ⟨st, est⟩ : ∃ st, st = blkN (fun i => ks.getD i 0) S l m := ⟨_, rfl⟩
      rw [← est] at hst
      have hsum : shaF (fun i => ks.getD i 0) S xs = sumL st := by
        rw [shaF_blk _ _ _ (by have := EN.out; omega), est, EL.out, hmN, ENN.out]
      have hbw := hP.1
      have hz := hP.2.2.2.2.2.2.2.1
      have HSum := Lib.hid hsum
      have HSt := Lib.hid hst
      have HBw := Lib.hid hbw
      have HZ := Lib.hid hz
      have hB8 := hP.2.1
      have hB8lt := hP.2.2.1
      have HB8LT := Lib.hid hB8lt
      obtain ⟨wF, ewF⟩ : ∃ wF, wF = wr := ⟨_, rfl⟩
      subst ewF
      clear hB8lt
      clear hP HP est hsum hst hbw hz hmN ep hm
      go_wp2_with fail
      go_loopw [12] (fun i wq => ∃ t : Nat, t ≤ 8 ∧ i = .int .i64 t ∧ SoA w1.heap.size wF.heap.size (4 * t) st w wq) (fun i _ => 8 - (intOf i).toNat)
      case atStart =>
        refine ⟨0, by omega, rfl, HBw.out.alloc HBw.out.size _, HSt.out.alloc _, HZ.out.alloc _, ?_⟩
        refine ⟨_, Blk.newAt _ _ _ _ rfl, HZ32.out.1, fun i hi => ?_⟩
        show z32[i]? = some (Value.int .u8 (if i < 4 * 0 then _ else 0))
        rw [if_neg (by omega)]
        exact HZ32.out.2 i hi
      case round =>
        obtain ⟨t, ht, rfl, hQ⟩ := hrel
        have HQ := Lib.hid hQ
        by_cases hlt : t < 8
        · have d0 := hQ.2.2.2.cell (4 * t) (by omega)
          have d1 := hQ.2.2.2.cell (4 * t + 1) (by omega)
          have d2 := hQ.2.2.2.cell (4 * t + 2) (by omega)
          have d3 := hQ.2.2.2.cell (4 * t + 3) (by omega)
          have f0 := hQ.2.2.2.free (4 * t)
          have f1 := hQ.2.2.2.free (4 * t + 1)
          have f2 := hQ.2.2.2.free (4 * t + 2)
          have f3 := hQ.2.2.2.free (4 * t + 3)
          have c0 := (St.row hQ.2.1).cell t hlt
          obtain ⟨x, ex⟩ : ∃ x, x = st.list.getD t 0 := ⟨_, rfl⟩
          rw [← ex] at c0
          have e0 : x / 16777216 % 256 = (sumL st).getD (4 * t) 0 := by rw [sumL_at _ _ (by omega), show (4 * t) / 4 = t by omega, show (4 * t) % 4 = 0 by omega, ← ex]; simp
          have e1 : x / 65536 % 256 = (sumL st).getD (4 * t + 1) 0 := by rw [sumL_at _ _ (by omega), show (4 * t + 1) / 4 = t by omega, show (4 * t + 1) % 4 = 1 by omega, ← ex]; simp
          have e2 : x / 256 % 256 = (sumL st).getD (4 * t + 2) 0 := by rw [sumL_at _ _ (by omega), show (4 * t + 2) / 4 = t by omega, show (4 * t + 2) % 4 = 2 by omega, ← ex]; simp
          have e3 : x % 256 = (sumL st).getD (4 * t + 3) 0 := by rw [sumL_at _ _ (by omega), show (4 * t + 3) / 4 = t by omega, show (4 * t + 3) % 4 = 3 by omega, ← ex]; simp
          have E0 := Lib.hid e0
          have E1 := Lib.hid e1
          have E2 := Lib.hid e2
          have E3 := Lib.hid e3
          clear hQ ex e0 e1 e2 e3
          go_wp2_with fail
          go_roundw
          case rel =>
            refine ⟨t + 1, by omega, by go_num, ?_⟩
            have hB : w1.heap.size < wF.heap.size := HB8LT.out
            exact (((HQ.out.step hB8 hB _ E0.out).step hB8 hB _ E1.out).step hB8 hB _ E2.out).step hB8 hB _ E3.out
          case measure => simp [intOf] <;> omega
        · obtain rfl : t = 8 := by omega
          have hr : RowA .u8 44 wr wF.heap.size (sumL st).length (fun i => (sumL st).getD i 0) := by
            rw [sumL_length]; exact hQ.2.2.2.congr (fun i hi => by rw [if_pos (by omega)])
          obtain ⟨ar, ear⟩ : ∃ ar, ar = ((sumL st).map (Value.int .u8)).toArray := ⟨_, rfl⟩
          have harr := hr.arr
          rw [← ear] at harr
          obtain ⟨cur, hcur1, hcur2, _⟩ := hQ.2.2.1
          have k1 : (Tryd.prog.info? 44).map (·.size) = some ar.size := by rw [ear]; simp only [List.size_toArray, List.length_map, sumL_length]; exact sum_size
          have k2 : cur.size = ar.size := by rw [hcur2, ear]; simp [sumL_length]
          have k3 : ar.all (·.oneCell') = true := by rw [ear]; exact sh_one _ _
          have hfin : Value.agg ar = aggOf .u8 (shaF (fun i => ks.getD i 0) S xs) := by rw [HSum.out, ear]; rfl
          have Harr := Lib.hid harr
          have Hcur := Lib.hid hcur1
          have K1 := Lib.hid k1
          have K2 := Lib.hid k2
          have K3 := Lib.hid k3
          have Hfin := Lib.hid hfin
          have Hbel := Lib.hid hQ.1
          clear hQ hr ear harr hcur1 hcur2 k1 k2 k3 hfin
          go_wp2_with (first | (with_reducible refine wpList_load_row rfl 44 (.tmp 11) rfl _ rfl 44 ar (0, 0) _ Harr.out.out Tryd.underlying44 rfl K1.out ?_) | (with_reducible refine wpList_store_row rfl 44 (.tmp 6) (.tmp 68) rfl _ ar rfl rfl 44 cur Hcur.out.out K1.out K2.out K3.out ?_))
          refine bodyPost_ret (v := .agg ar) (results_cell_row (t := 44) (fr := (0, 0)) rfl _ _ (w.heap.size + 1 + 1) _ _ rfl (Hcur.out.setRow _).out Tryd.underlying44 rfl ?_) rfl ⟨by rw [Hfin.out]; simp only [List.getD_eq_getElem?_getD], ?_⟩
          · exact K1.out
          · exact below_setRow Hbel.out (by omega) _
end Go.Proofs.YtjcinelcocmpnaaDoor
