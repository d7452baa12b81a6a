/- MetaRound: the walk of the statement. -/
import Derived.Test.YtjcinelcocmpnaaDoorSupJ
namespace Go.Proofs.YtjcinelcocmpnaaDoor
open Go.RowKit
set_option linter.unusedVariables false
set_option linter.unusedSimpArgs false
set_option maxHeartbeats 400000 in
theorem lsized_yes (b : Int) (w : World) (hb : okSize b) : Calls Tryd.prog 37 #[.int .i64 b] w fun e w' => e = .returned (.bool true) ∧ w = w' := by
  rcases hb with rfl | rfl | rfl | rfl
  all_goals
    go_enter Tryd.func37, Tryd.ntmps37
    go_wp2
    go_ret
    exact ⟨rfl, rfl⟩
set_option maxHeartbeats 400000 in
theorem lsized_no (b : Int) (w : World) (hb : ¬ okSize b) : Calls Tryd.prog 37 #[.int .i64 b] w fun e w' => e = .returned (.bool false) ∧ w = w' := by
  unfold okSize at hb
  have h1 : (b == 128) = false := by simp; omega
  have h2 : (b == 256) = false := by simp; omega
  have h3 : (b == 512) = false := by simp; omega
  have h4 : (b == 1024) = false := by simp; omega
  go_enter Tryd.func37, Tryd.ntmps37
  go_wp2
  go_ret
  exact ⟨rfl, rfl⟩
theorem lsized_ok (b : Int) (w : World) : Calls Tryd.prog 37 #[.int .i64 b] w fun e w' => e = .returned (.bool (szB b)) ∧ w = w' := by
  by_cases h : okSize b
  · have : szB b = true := decide_eq_true h
    rw [this]; exact lsized_yes b w h
  · have : szB b = false := decide_eq_false h
    rw [this]; exact lsized_no b w h
set_option maxHeartbeats 2000000 in
set_option maxRecDepth 100000 in
theorem lawful_ok (s : Sup) (w : World) :
    Calls Tryd.prog 21 #[.agg s.arr] w (FtQ s w) := by
  obtain ⟨sq, bl, sz, sl, cu, bm, o1, o2, fl, mr⟩ := s
  simp only [Sup.arr]
  go_enter Tryd.func21, Tryd.ntmps21
  go_wp2_with (go_at_call 37; refine (lsized_ok _ _).mono ?_; rintro e w' ⟨rfl, rfl⟩)
  all_goals
    have hsz : szB sz = true ↔ okSize sz := by unfold szB; exact decide_eq_true_iff
    go_ret
    refine ⟨⟨_, rfl, ?_⟩, (Below.refl _ _).alloc (Nat.le_refl _) _⟩
    simp only [Fits]
    constructor
    · intro hr
      first
        | (exfalso; exact Bool.noConfusion hr)
        | (simp only [decide_eq_true_eq] at hr; exact ⟨by omega, by omega, by omega, by omega, hsz.1 (by assumption), by omega, by omega, by omega, by omega, by omega⟩)
        | exact ⟨by omega, by omega, by omega, by omega, hsz.1 (by assumption), by omega, by omega, by omega, by omega, by omega⟩
        | exact ⟨by omega, by omega, by omega, by omega, hsz.1 (by simp_all), by omega, by omega, by simp_all, by simp_all, by simp_all⟩
    · rintro ⟨a1, a2, a3, a4, a5, a6, a7, a8, a9, a10⟩
      first
        | rfl
        | (exfalso; omega)
        | (simp; omega)
        | (exfalso; have := hsz.2 a5; simp_all)
        | (simp_all)
/-- The call returns true, what was there is as it was. -/
def DoneT (w : World) (e : Ending) (w' : World) : Prop := e = .returned (.bool true) ∧ Below w.heap.size w w'
theorem FtQ.cases {s : Sup} {w : World} {e : Ending} {w' : World} (h : FtQ s w e w') : (Fits s ∧ e = .returned (.bool true) ∧ Below w.heap.size w w') ∨ (¬ Fits s ∧ e = .returned (.bool false) ∧ Below w.heap.size w w') := by
  obtain ⟨⟨r, he, hr⟩, hb⟩ := h
  rcases r with _ | _
  · exact .inr ⟨fun h => Bool.noConfusion (hr.2 h), he, hb⟩
  · exact .inl ⟨hr.1 rfl, he, hb⟩
set_option maxHeartbeats 2000000 in
set_option maxRecDepth 100000 in
theorem round_law (K : Nat → Int) (S : St) (s : Sup) (w : World) (hT : Tab K S w) (hk : Kinds s) :
    Calls Tryd.prog 6 #[.agg s.arr] w (DoneT w) := by
  obtain ⟨wb, ewb⟩ : ∃ wb, wb = w.alloc (.cells s.arr 27) := ⟨_, rfl⟩
  have hbb : Below w.heap.size w wb := by rw [ewb]; exact (Below.refl _ _).alloc (Nat.le_refl _) _
  have hA0 : Blk wb w.heap.size 27 s.arr := by rw [ewb]; exact Blk.newAt _ _ _ _ rfl
  have hTb : Tab K S wb := hT.belowS hbb
  have hseal := seal_ok K S s wb hTb hk.2.2.2.2.2.1 hk.2.2.2.2.2.2 hk.2.1.1 hk.2.2.1.1 hk.2.2.2.1.1 hk.2.2.2.2.1.1
  have HSL := Lib.hid hseal
  have HA0 := Lib.hid hA0
  have HBB := Lib.hid hbb
  have HTb := Lib.hid hTb
  have HK := Lib.hid hk
  rw [Sup.arr] at ewb
  have EWB := Lib.hid ewb
  clear hseal hbb hTb hk hT ewb
  have b0 := hA0.cell 0
  have b1 := hA0.cell 1
  have b2 := hA0.cell 2
  have b3 := hA0.cell 3
  have b4 := hA0.cell 4
  have b5 := hA0.cell 5
  have b6 := hA0.cell 6
  have b7 := hA0.cell 7
  have b8 := hA0.cell 8
  have b9 := hA0.cell 9
  simp only [Sup.arr, List.getElem?_toArray, List.getElem?_cons_zero, List.getElem?_cons_succ] at b0 b1 b2 b3 b4 b5 b6 b7 b8 b9
  clear hA0
  rw [Sup.arr]
  go_enter Tryd.func6, Tryd.ntmps6
  go_wp2_with fail
  rw [← EWB.out]
  refine HSL.out.mono ?_
  rintro e w1 ⟨hb1, hq⟩
  have hA1 : Blk w1 w.heap.size 27 s.arr := HA0.out.below hb1 HA0.out.lt
  have hbw1 : Below w.heap.size w w1 := HBB.out.trans (hb1.mono HBB.out.size)
  have hT1 : Tab K S w1 := HTb.out.belowS hb1
  have hs1 : w.heap.size < w1.heap.size := hA1.lt
  have HT1 := Lib.hid hT1
  have HBW1 := Lib.hid hbw1
  have HA1 := Lib.hid hA1
  clear b0 b1 b2 b3 b4 b5 b6 b7 b8 b9
  have b0 := hA1.cell 0
  have b1 := hA1.cell 1
  have b2 := hA1.cell 2
  have b3 := hA1.cell 3
  have b4 := hA1.cell 4
  have b5 := hA1.cell 5
  have b6 := hA1.cell 6
  have b7 := hA1.cell 7
  have b8 := hA1.cell 8
  have b9 := hA1.cell 9
  simp only [Sup.arr, List.getElem?_toArray, List.getElem?_cons_zero, List.getElem?_cons_succ] at b0 b1 b2 b3 b4 b5 b6 b7 b8 b9
  have hlw := lawful_ok s w1
  simp only [Sup.arr] at hlw
  have HLW := Lib.hid hlw
  clear hT1 hbw1 hA1 hb1 hlw
  rcases hq with ⟨hf, B, hB, rfl, hrow⟩ | ⟨hf, rfl⟩
  · have HF := Lib.hid hf
    have Hrow := Lib.hid hrow
    clear hf hrow
    go_wp2_with fail
    refine HLW.out.mono ?_
    rintro e w2 hq
    rcases hq.cases with ⟨_, rfl, hb2⟩ | ⟨hno, _, _⟩
    · have hsz : ((s.sz.toNat : Nat) : Int) = s.sz := by have := HF.out.2.2.2.2.1; unfold okSize at this; omega
      have tsz : (max s.sz 0 != s.sz) = false := by rw [bne_eq_false_iff_eq]; omega
      have hrow2 := Hrow.out.below hb2 Hrow.out.lt
      have hlen := sealL_length K S s HF.out.2.2.2.2.1
      have hrd : Rd .u8 w2 (.slice (some ⟨B, 0, none⟩) s.sz.toNat s.sz.toNat) (sealL K S s) := by
        have := hrow2.rd (sealL K S s) s.sz.toNat (by omega) (by omega) (fun i _ => rfl)
        rw [hlen] at this; exact this
      have hun := unseal_ok K S _ _ w2 (HT1.out.belowS hb2) hrd (sealL_bytes K S s)
      rw [unF_seal K S s HF.out HK.out] at hun
      have HUN := Lib.hid hun
      have HB2 := Lib.hid hb2
      have hA2 : Blk w2 w.heap.size 27 s.arr := HA1.out.below hb2 HA1.out.lt
      have hs2 : w.heap.size < w2.heap.size := hA2.lt
      clear b0 b1 b2 b3 b4 b5 b6 b7 b8 b9
      have b2 := hA2.cell 2
      simp only [Sup.arr, List.getElem?_toArray, List.getElem?_cons_zero, List.getElem?_cons_succ] at b2
      have HA2 := Lib.hid hA2
      clear hsz hrow2 hlen hrd hun hA2 hb2 hq HLW HSL
      go_wp2_with fail
      refine HUN.out.mono ?_
      rintro e w3 ⟨rfl, hb3⟩
      have hA3 : Blk w3 w.heap.size 27 s.arr := HA2.out.below hb3 HA2.out.lt
      have hs3 : w.heap.size < w3.heap.size := hA3.lt
      clear b2
      have b0 := hA3.cell 0
      have b1 := hA3.cell 1
      have b2 := hA3.cell 2
      have b3 := hA3.cell 3
      have b4 := hA3.cell 4
      have b5 := hA3.cell 5
      have b6 := hA3.cell 6
      have b7 := hA3.cell 7
      have b8 := hA3.cell 8
      have b9 := hA3.cell 9
      simp only [Sup.arr, List.getElem?_toArray, List.getElem?_cons_zero, List.getElem?_cons_succ] at b0 b1 b2 b3 b4 b5 b6 b7 b8 b9
      have hfin : Below w.heap.size w w3 := HBW1.out.trans ((HB2.out.mono HBW1.out.size).trans (hb3.mono (Nat.le_trans HBW1.out.size HB2.out.size)))
      have HFin := Lib.hid hfin
      clear hA3 hb3 hfin HUN
      simp only [Sup.arr]
      go_wp2_with fail
      go_ret
      exact ⟨rfl, HFin.out.alloc HFin.out.size _⟩
    · exact absurd HF.out hno
  · have HF := Lib.hid hf
    clear hf
    go_wp2_with fail
    refine HLW.out.mono ?_
    rintro e w2 hq
    rcases hq.cases with ⟨hyes, _, _⟩ | ⟨_, rfl, hb2⟩
    · exact absurd hyes HF.out
    · have hfin : Below w.heap.size w w2 := HBW1.out.trans (hb2.mono HBW1.out.size)
      have HFin := Lib.hid hfin
      clear hfin hb2 hq
      go_wp2_with fail
      go_ret
      exact ⟨rfl, HFin.out⟩
end Go.Proofs.YtjcinelcocmpnaaDoor
