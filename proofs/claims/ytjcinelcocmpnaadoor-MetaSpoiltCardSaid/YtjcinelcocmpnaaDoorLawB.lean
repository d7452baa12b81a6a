/- MetaSealed: the walk of the statement. -/
import Derived.Test.YtjcinelcocmpnaaDoorLawA
import Derived.Test.YtjcinelcocmpnaaDoorSupK
import Derived.Test.YtjcinelcocmpnaaDoorSameB
namespace Go.Proofs.YtjcinelcocmpnaaDoor
open Go.RowKit
set_option linter.unusedVariables false
set_option linter.unusedSimpArgs false
theorem below_of_drewN {B : Nat} {w w1 : World} {m : Nat} (h : Below B (w.drewN m) w1) : Below B w w1 := ⟨h.os, h.tape, h.output, h.size, h.block⟩
theorem Rd.drewN {k : IntKind} {w : World} {v : Value} {xs : List Int} (h : Rd k w v xs) (m : Nat) : Rd k (w.drewN m) v xs := h
/-- The loop that holds the seal against the digest. -/
def WhA (b off N D : Nat) (xs sa : List Int) (w wr : World) : Prop := Below w.heap.size w wr ∧ (∀ i, i < N → wr.cell? ⟨b, off + i, none⟩ = some (.int .u8 (xs.getD i 0))) ∧ RowA .u8 44 wr D 32 (fun i => sa.getD i 0)
theorem WhA.drewN {b off N D : Nat} {xs sa : List Int} {w wr : World} (h : WhA b off N D xs sa w wr) (m : Nat) : WhA b off N D xs sa w (wr.drewN m) := ⟨below_drewN h.1 m, h.2.1, h.2.2⟩
set_option maxHeartbeats 4000000 in
set_option maxRecDepth 100000 in
theorem whole_ok (K : Nat → Int) (S : St) (s : Sup) (v : Value) (w : World) (hT : Tab K S w) (hf : Fits s) (hk : Kinds s) (hr : Rd .u8 w v (sealL K S s)) :
    Calls Tryd.prog 22 #[v] w (DoneT w) := by
  have h5 := hf.2.2.2.2.1
  have hlen := sealL_length K S s h5
  have hN : 128 ≤ s.sz.toNat ∧ s.sz.toNat ≤ 1024 := by unfold okSize at h5; omega
  obtain ⟨xs, exs⟩ : ∃ xs, xs = sealL K S s := ⟨_, rfl⟩
  have hby : Bytes xs := by rw [exs]; exact sealL_bytes K S s
  have hun := unseal_ok K S v xs w hT (by rw [exs]; exact hr) hby
  rw [exs, unF_seal K S s hf hk] at hun
  rw [← exs] at hlen hr
  have htk : xs.take (xs.length - 32) = headL s := by rw [exs]; exact seal_take K S s h5
  have hdr : xs.drop (xs.length - 32) = shaF K S (headL s) := by rw [exs]; exact seal_drop K S s h5
  rcases hr with ⟨h0, _⟩ | ⟨b, off, c, rfl, g1, g2, g3, g4⟩
  · rw [h0] at hlen; simp at hlen; omega
  obtain ⟨N, eN⟩ : ∃ N, N = s.sz.toNat := ⟨_, rfl⟩
  rw [hlen, ← eN] at g1 g2 g4 htk hdr hun ⊢
  rw [← eN] at hN hlen
  obtain ⟨hN1, hN2⟩ := hN
  have HUN := Lib.hid hun
  have HT := Lib.hid hT
  have HF := Lib.hid hf
  have HK := Lib.hid hk
  have EXS := Lib.hid exs
  have HLen := Lib.hid hlen
  have HTk := Lib.hid htk
  have HDr := Lib.hid hdr
  have HG4 := Lib.hid g4
  have EN := Lib.hid eN
  have HBy := Lib.hid hby
  clear hun hT hf hk exs hlen htk hdr g4 eN h5 hby
  go_enter Tryd.func22, Tryd.ntmps22
  go_wp2_with fail
  refine HUN.out.mono ?_
  rintro e w1 ⟨rfl, hb1⟩
  have HB1 := Lib.hid hb1
  clear hb1 HUN
  simp only [Sup.arr]
  have tn : decide ((N : Int) < 32) = false := by simp; omega
  obtain ⟨wA, ewA⟩ : ∃ wA, wA = w1.alloc (.cells s.arr 27) := ⟨_, rfl⟩
  have hbA : Below w.heap.size w wA := by rw [ewA]; exact HB1.out.alloc HB1.out.size _
  have hseal := seal_ok K S s wA (HT.out.belowS hbA) HK.out.2.2.2.2.2.1 HK.out.2.2.2.2.2.2 HK.out.2.1.1 HK.out.2.2.1.1 HK.out.2.2.2.1.1 HK.out.2.2.2.2.1.1
  have HSL := Lib.hid hseal
  have HBA := Lib.hid hbA
  simp only [Sup.arr] at ewA
  have EWA := Lib.hid ewA
  clear ewA hbA hseal
  go_wp2_with fail
  rw [← EWA.out]
  refine HSL.out.mono ?_
  rintro e w2 ⟨hb2, hq⟩
  rcases hq.symm with ⟨hno, _⟩ | ⟨_, B, hB, rfl, hrow⟩
  · exact absurd HF.out hno
  have hbw2 : Below w.heap.size w w2 := HBA.out.trans (hb2.mono HBA.out.size)
  have hrdB : Rd .u8 w2 (.slice (some ⟨B, 0, none⟩) N N) xs := by
    have := hrow.rd xs N (by rw [HLen.out, EN.out]; exact Nat.le_refl _) (by rw [HLen.out]; exact Nat.le_refl _) (fun i _ => by rw [EXS.out])
    rw [HLen.out] at this; exact this
  have hrdb : Rd .u8 w2 (.slice (some ⟨b, off, none⟩) N c) xs := by
    refine .inr ⟨b, off, c, by rw [HLen.out], by rw [HLen.out]; omega, by rw [HLen.out]; exact g2, Nat.lt_of_lt_of_le g3 hbw2.size, fun i hi => ?_⟩
    rw [HLen.out] at hi
    exact (hbw2.cell (p := ⟨b, off + i, none⟩) g3).trans (HG4.out i hi)
  have hsame := sameB_ok _ _ xs xs w2 hrdB hrdb (by rw [HLen.out]; unfold maxLen; omega) (by rw [HLen.out]; unfold maxLen; omega)
  rw [decide_eq_true rfl] at hsame
  have HSame := Lib.hid hsame
  have HRb := Lib.hid hrdb
  have HBW2 := Lib.hid hbw2
  rw [← EN.out]
  clear hb2 hbw2 hrow hrdB hrdb hsame HSL
  go_wp2_with fail
  refine HSame.out.mono ?_
  rintro e w3 ⟨m, rfl, rfl⟩
  have hhl : (headL s).length = N - 32 := by rw [headL_length s HF.out.2.2.2.2.1, EN.out]
  have hrdh : Rd .u8 (w2.drewN m) (.slice (some ⟨b, off, none⟩) (N - 32) c) (headL s) := by
    refine .inr ⟨b, off, c, by rw [hhl], by omega, by omega, Nat.lt_of_lt_of_le g3 HBW2.out.size, fun i hi => ?_⟩
    rw [show (w2.drewN m).cell? ⟨b, off + i, none⟩ = w2.cell? ⟨b, off + i, none⟩ from rfl, HBW2.out.cell (p := ⟨b, off + i, none⟩) g3, HG4.out i (by omega), ← HTk.out, List.getD_eq_getElem?_getD, List.getD_eq_getElem?_getD, List.getElem?_take, if_pos (by omega)]
  have hsum := sum256_ok K S _ _ (w2.drewN m) ((HT.out.belowS HBW2.out).drewN m) hrdh
  have HSum := Lib.hid hsum
  have n1 : (32 : Int) ≤ (N : Int) := by omega
  have n2 : N - 32 ≤ c := by omega
  have n3 : (N : Int) - 32 ≤ (c : Int) := by omega
  clear hhl hrdh hsum HSame
  go_wp2_with fail
  refine HSum.out.mono ?_
  rintro e w4 ⟨rfl, hb4⟩
  obtain ⟨z32, hz32, e32⟩ : ∃ zc : Array Value, (∀ w, (zeroValue 44).run Tryd.prog w = .ok (.agg zc) w) ∧ zc = (List.replicate 32 (Value.int .u8 0)).toArray :=
    ⟨(List.replicate 32 (Value.int .u8 0)).toArray, fun w => by kernel_rfl, rfl⟩
  unfold aggOf
  obtain ⟨dl, edl⟩ : ∃ dl, dl = shaF K S (headL s) := ⟨_, rfl⟩
  rw [← edl]
  have hdl : dl.length = 32 := by rw [edl, shaF_length]
  obtain ⟨sa, esa⟩ : ∃ sa, sa = (dl.map (Value.int .u8)).toArray := ⟨_, rfl⟩
  rw [← esa]
  have k1 : (Tryd.prog.info? 44).map (·.size) = some sa.size := by rw [esa]; simp only [List.size_toArray, List.length_map, hdl]; exact sum_size
  have k2 : z32.size = sa.size := by rw [e32, esa]; simp [hdl]
  have k3 : sa.all (·.oneCell') = true := by rw [esa]; exact sh_one _ _
  have hb4' : Below w2.heap.size w2 w4 := below_of_drewN hb4
  have hbw4 : Below w.heap.size w w4 := HBW2.out.trans (hb4'.mono HBW2.out.size)
  have hdx : ∀ i, i < 32 → dl.getD i 0 = xs.getD (N - 32 + i) 0 := fun i hi => by
    rw [edl, ← HDr.out, List.getD_eq_getElem?_getD, List.getD_eq_getElem?_getD, List.getElem?_drop]
  have HDX := Lib.hid hdx
  have K1 := Lib.hid k1
  have K2 := Lib.hid k2
  have K3 := Lib.hid k3
  have Esa := Lib.hid esa
  have HDL := Lib.hid hdl
  have HBW4 := Lib.hid hbw4
  clear k1 k2 k3 esa e32 edl hdl hb4 hb4' hbw4 hdx HSum
  go_wp2_with (refine wpList_store_row rfl 44 (.tmp 7) (.tmp 39) rfl w4.heap.size sa rfl rfl 44 z32 (Blk.newAt w4 w4.heap.size _ z32 rfl) K1.out K2.out K3.out ?_; rw [World.setRow_alloc_new])
  go_loopw [8] (fun i wr => ∃ t : Nat, t ≤ 32 ∧ i = .int .i64 t ∧ WhA b off N w4.heap.size xs dl w wr) (fun i _ => 32 - (intOf i).toNat)
  case atStart =>
    refine ⟨0, by omega, rfl, HBW4.out.alloc HBW4.out.size _, fun i hi => ?_, ?_⟩
    · rw [cell_of_heap (Below.heap_alloc _ _ _ (Nat.lt_of_lt_of_le g3 HBW4.out.size)), HBW4.out.cell (p := ⟨b, off + i, none⟩) g3]
      exact HG4.out i hi
    · have hb : Blk (w4.alloc (.cells sa 44)) w4.heap.size 44 (dl.map (Value.int .u8)).toArray := by rw [Esa.out]; exact Blk.newAt _ _ _ _ rfl
      have := RowA.list hb
      rw [HDL.out] at this
      exact this
  case round =>
    obtain ⟨t, ht, rfl, hP⟩ := hrel
    have HP := Lib.hid hP
    by_cases hlt : t < 32
    · have c0 := hP.2.1 (N - 32 + t) (by omega)
      have c1 := hP.2.2.cell t hlt
      have hq := HDX.out t hlt
      obtain ⟨x, ex⟩ : ∃ x, x = xs.getD (N - 32 + t) 0 := ⟨_, rfl⟩
      rw [← ex] at c0
      rw [hq, ← ex] at c1
      have n4 : IntKind.i64.wrap ((N : Int) - 32) = (N : Int) - 32 := IntWalk.i64_in _ (by omega)
      have n5 : IntKind.i64.wrap ((N : Int) - 32 + (t : Int)) = (N : Int) - 32 + (t : Int) := IntWalk.i64_in _ (by omega)
      have n6 : (0 : Int) ≤ (N : Int) - 32 + (t : Int) := by omega
      have n7 : ((N : Int) - 32 + (t : Int)).toNat = N - 32 + t := by omega
      have n8 : (N : Int) - 32 + (t : Int) < (N : Int) := by omega
      have n9 : N - 32 + t < N := by omega
      clear hP hq ex
      go_wp2_with fail
      go_quiet (fail)
      go_wp2_with fail
      go_roundw
      case rel => exact ⟨t + 1, by omega, by go_num, HP.out.drewN nq⟩
      case measure => simp [intOf] <;> omega
    · obtain rfl : t = 32 := by omega
      have hfin := hP.1
      have HFin := Lib.hid hfin
      clear hP hfin
      go_wp2_with fail
      go_ret
      exact ⟨rfl, HFin.out⟩
/-- The end of MetaSealed: the block that came in. -/
theorem sealed_end (K : Nat → Int) (S : St) (v : Value) (xs : List Int) (w : World) (hT : Tab K S w) (hr : Rd .u8 w v xs) (hb : Bytes xs) (hc : (unF K S xs).2 = 0) : Calls Tryd.prog 22 #[v] w (DoneT w) := by
  have h := unF_ok K S xs (unF K S xs).1 hb (Prod.ext rfl hc)
  refine whole_ok K S _ v w hT h.1 h.2.1 ?_
  rw [← h.2.2]; exact hr
set_option maxHeartbeats 4000000 in
set_option maxRecDepth 100000 in
theorem sealed_law (K : Nat → Int) (S : St) (v : Value) (xs : List Int) (s : Sup) (w : World) (hT : Tab K S w) (hr : Rd .u8 w v xs) (hb : Bytes xs) (hk : Kinds s) :
    Calls Tryd.prog 7 #[v, .agg s.arr] w (DoneT w) := by
  obtain ⟨wb, ewb⟩ : ∃ wb, wb = w.alloc (.cells s.arr 27) := ⟨_, rfl⟩
  have hbb : Below w.heap.size w wb := by rw [ewb]; exact (Below.refl _ _).alloc (Nat.le_refl _) _
  have hA0 : Blk wb w.heap.size 27 s.arr := by rw [ewb]; exact Blk.newAt _ _ _ _ rfl
  have hseal := seal_ok K S s wb (hT.belowS hbb) hk.2.2.2.2.2.1 hk.2.2.2.2.2.2 hk.2.1.1 hk.2.2.1.1 hk.2.2.2.1.1 hk.2.2.2.2.1.1
  have HSL := Lib.hid hseal
  have HA0 := Lib.hid hA0
  have HBB := Lib.hid hbb
  have HT := Lib.hid hT
  have HK := Lib.hid hk
  have HR := Lib.hid hr
  have HBy := Lib.hid hb
  obtain ⟨A, c, rfl⟩ := hr.slice
  obtain ⟨n, en⟩ : ∃ n, n = xs.length := ⟨_, rfl⟩
  rw [← en] at HR ⊢
  rw [Sup.arr] at ewb
  have EWB := Lib.hid ewb
  have EN := Lib.hid en
  clear hseal hbb hk hT ewb hr hb en
  have b0 := hA0.cell 0
  have b1 := hA0.cell 1
  have b2 := hA0.cell 2
  have b3 := hA0.cell 3
  have b4 := hA0.cell 4
  have b5 := hA0.cell 5
  have b6 := hA0.cell 6
  have b7 := hA0.cell 7
  have b8 := hA0.cell 8
  have b9 := hA0.cell 9
  simp only [Sup.arr, List.getElem?_toArray, List.getElem?_cons_zero, List.getElem?_cons_succ] at b0 b1 b2 b3 b4 b5 b6 b7 b8 b9
  clear hA0
  rw [Sup.arr]
  go_enter Tryd.func7, Tryd.ntmps7
  go_wp2_with fail
  rw [← EWB.out]
  refine HSL.out.mono ?_
  rintro e w1 ⟨hb1, hq⟩
  have hA1 : Blk w1 w.heap.size 27 s.arr := HA0.out.below hb1 HA0.out.lt
  have hbw1 : Below w.heap.size w w1 := HBB.out.trans (hb1.mono HBB.out.size)
  have hs1 : w.heap.size < w1.heap.size := hA1.lt
  have HBW1 := Lib.hid hbw1
  clear b0 b1 b2 b3 b4 b5 b6 b7 b8 b9
  have b0 := hA1.cell 0
  have b1 := hA1.cell 1
  have b2 := hA1.cell 2
  have b3 := hA1.cell 3
  have b4 := hA1.cell 4
  have b5 := hA1.cell 5
  have b6 := hA1.cell 6
  have b7 := hA1.cell 7
  have b8 := hA1.cell 8
  have b9 := hA1.cell 9
  simp only [Sup.arr, List.getElem?_toArray, List.getElem?_cons_zero, List.getElem?_cons_succ] at b0 b1 b2 b3 b4 b5 b6 b7 b8 b9
  have hlw := lawful_ok s w1
  simp only [Sup.arr] at hlw
  have HLW := Lib.hid hlw
  clear hbw1 hA1 hb1 hlw HSL
  obtain ⟨r, er⟩ : ∃ r, r = unF K S xs := ⟨_, rfl⟩
  have Er := Lib.hid er
  clear er
  rcases hq with ⟨hf, B, hB, rfl, hrow⟩ | ⟨hf, rfl⟩
  · have HF := Lib.hid hf
    have Hrow := Lib.hid hrow
    clear hf hrow
    go_wp2_with fail
    refine HLW.out.mono ?_
    rintro e w2 hq
    rcases hq.cases with ⟨_, rfl, hb2⟩ | ⟨hno, _, _⟩
    · have hlen := sealL_length K S s HF.out.2.2.2.2.1
      have hrd : Rd .u8 w2 (.slice (some ⟨B, 0, none⟩) s.sz.toNat s.sz.toNat) (sealL K S s) := by
        have := (Hrow.out.below hb2 Hrow.out.lt).rd (sealL K S s) s.sz.toNat (by omega) (by omega) (fun i _ => rfl)
        rw [hlen] at this; exact this
      have hbw2 : Below w.heap.size w w2 := HBW1.out.trans (hb2.mono HBW1.out.size)
      have hwh := whole_ok K S s _ w2 (HT.out.belowS hbw2) HF.out HK.out hrd
      have HWH := Lib.hid hwh
      have HBW2 := Lib.hid hbw2
      clear b0 b1 b2 b3 b4 b5 b6 b7 b8 b9
      clear hlen hrd hwh hbw2 hb2 hq HLW
      go_wp2_with fail
      refine HWH.out.mono ?_
      rintro e w3 ⟨rfl, hb3⟩
      have hbw3 : Below w.heap.size w w3 := HBW2.out.trans (hb3.mono HBW2.out.size)
      have hun := unseal_ok K S _ xs w3 (HT.out.belowS hbw3) (HR.out.below hbw3) HBy.out
      rw [← Er.out] at hun
      have HUN := Lib.hid hun
      have HBW3 := Lib.hid hbw3
      clear hun hbw3 hb3 HWH
      go_wp2_with fail
      refine HUN.out.mono ?_
      rintro e w4 ⟨rfl, hb4⟩
      have hbw4 : Below w.heap.size w w4 := HBW3.out.trans (hb4.mono HBW3.out.size)
      have HBW4 := Lib.hid hbw4
      clear hbw4 hb4 HUN
      simp only [Sup.arr]
      by_cases hz : r.2 = 0
      · have hse := sealed_end K S (.slice A n c) xs (w4.alloc (.cells r.1.arr 27)) ((HT.out.belowS HBW4.out).alloc _) (HR.out.below (HBW4.out.alloc HBW4.out.size _)) HBy.out (by rw [← Er.out]; exact hz)
        simp only [Sup.arr] at hse
        have HSE := Lib.hid hse
        have tz : (r.2 != 0) = false := by rw [hz]; rfl
        clear hse hz
        go_wp2_with fail
        refine HSE.out.mono ?_
        rintro e w5 ⟨rfl, hb5⟩
        have hfin : Below w.heap.size w w5 := (HBW4.out.alloc HBW4.out.size _).trans (hb5.mono (by have := HBW4.out.size; simp; omega))
        have HFin := Lib.hid hfin
        clear hfin hb5
        go_wp2_with fail
        go_ret
        exact ⟨rfl, HFin.out⟩
      · have tz : (r.2 != 0) = true := by rw [bne_iff_ne]; exact hz
        clear hz
        go_wp2_with fail
        go_ret
        exact ⟨rfl, HBW4.out.alloc HBW4.out.size _⟩
    · exact absurd HF.out hno
  · have HF := Lib.hid hf
    clear hf
    go_wp2_with fail
    refine HLW.out.mono ?_
    rintro e w2 hq
    rcases hq.cases with ⟨hyes, _, _⟩ | ⟨_, rfl, hb2⟩
    · exact absurd hyes HF.out
    · have hbw3 : Below w.heap.size w w2 := HBW1.out.trans (hb2.mono HBW1.out.size)
      have hun := unseal_ok K S _ xs w2 (HT.out.belowS hbw3) (HR.out.below hbw3) HBy.out
      rw [← Er.out] at hun
      have HUN := Lib.hid hun
      have HBW3 := Lib.hid hbw3
      clear b0 b1 b2 b3 b4 b5 b6 b7 b8 b9
      clear hun hbw3 hb2 hq HLW
      go_wp2_with fail
      refine HUN.out.mono ?_
      rintro e w4 ⟨rfl, hb4⟩
      have hbw4 : Below w.heap.size w w4 := HBW3.out.trans (hb4.mono HBW3.out.size)
      have HBW4 := Lib.hid hbw4
      clear hbw4 hb4 HUN
      simp only [Sup.arr]
      by_cases hz : r.2 = 0
      · have hse := sealed_end K S (.slice A n c) xs (w4.alloc (.cells r.1.arr 27)) ((HT.out.belowS HBW4.out).alloc _) (HR.out.below (HBW4.out.alloc HBW4.out.size _)) HBy.out (by rw [← Er.out]; exact hz)
        simp only [Sup.arr] at hse
        have HSE := Lib.hid hse
        have tz : (r.2 != 0) = false := by rw [hz]; rfl
        clear hse hz
        go_wp2_with fail
        refine HSE.out.mono ?_
        rintro e w5 ⟨rfl, hb5⟩
        have hfin : Below w.heap.size w w5 := (HBW4.out.alloc HBW4.out.size _).trans (hb5.mono (by have := HBW4.out.size; simp; omega))
        have HFin := Lib.hid hfin
        clear hfin hb5
        go_wp2_with fail
        go_ret
        exact ⟨rfl, HFin.out⟩
      · have tz : (r.2 != 0) = true := by rw [bne_iff_ne]; exact hz
        clear hz
        go_wp2_with fail
        go_ret
        exact ⟨rfl, HBW4.out.alloc HBW4.out.size _⟩
end Go.Proofs.YtjcinelcocmpnaaDoor
