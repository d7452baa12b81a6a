/- MetaSpoilt: the walk of the statement. -/
import Derived.Test.YtjcinelcocmpnaaDoorLawB
import Derived.Test.YtjcinelcocmpnaaDoorSpoP
import Derived.Test.YtjcinelcocmpnaaDoorSpoC
import Derived.StillTailTactics
namespace Go.Proofs.YtjcinelcocmpnaaDoor
open Go.RowKit
set_option linter.unusedVariables false
set_option linter.unusedSimpArgs false
theorem rdPart {w : World} {B N k : Nat} {t : TypeId} {xs : List Int} (h : RowA .u8 t w B N (fun i => xs.getD i 0)) (hl : xs.length = N) (hk : k ≤ N) : Rd .u8 w (.slice (some ⟨B, 0, none⟩) k N) (xs.take k) := by
  have hlen : (xs.take k).length = k := by rw [List.length_take]; omega
  have := h.rd (xs.take k) N (by omega) (by omega) (fun i hi => by
    rw [hlen] at hi
    simp only [List.getD_eq_getElem?_getD]
    rw [List.getElem?_take, if_pos hi])
  rw [hlen] at this; exact this
theorem rd_some {k : IntKind} {w : World} {A : Option Addr} {n c : Nat} {ps : List Int} (h : Rd k w (.slice A n c) ps) (hp : 0 < n) : ∃ b off, A = some ⟨b, off, none⟩ ∧ n ≤ c ∧ b < w.heap.size ∧ ∀ i, i < n → w.cell? ⟨b, off + i, none⟩ = some (.int k (ps.getD i 0)) := by
  rcases h with ⟨_, A', c', e⟩ | ⟨b, off, c', e, g1, g2, g3, g4⟩
  · simp only [Value.slice.injEq] at e; omega
  · simp only [Value.slice.injEq] at e
    obtain ⟨rfl, rfl, rfl⟩ := e
    exact ⟨b, off, rfl, g2, g3, g4⟩
theorem part_same (k B Z N : Nat) (xs zs : List Int) (w : World) (hB : RowA .u8 5 w B N (fun i => xs.getD i 0)) (hZ : RowA .u8 5 w Z N (fun i => zs.getD i 0)) (hx : xs.length = N) (hz : zs.length = N) (hk : k ≤ N) (hN : N ≤ 1024) :
    Calls Tryd.prog 12 #[.slice (some ⟨B, 0, none⟩) k N, .slice (some ⟨Z, 0, none⟩) k N] w (SameP w (decide (xs.take k = zs.take k))) :=
  sameB_ok _ _ (xs.take k) (zs.take k) w (rdPart hB hx hk) (rdPart hZ hz hk) (by unfold maxLen; rw [List.length_take]; omega) (by unfold maxLen; rw [List.length_take]; omega)
theorem same_quiet1 {P : Program} {f : FuncId} {args : Array Value} {w : World} {n : Nat} {r : Bool} (h : Calls P f args (w.drewN n) (SameP (w.drewN n) r)) :
    Calls P f args (w.drewN n) fun e w'' => e = .returned (.bool r) ∧ ∃ m, w'' = w.drewN m :=
  h.mono fun _ _ ⟨m, he, hm⟩ => ⟨he, n + m, by rw [hm, World.drewN_drewN]⟩
theorem drop_iff (zs dl : List Int) (N : Nat) (hz : zs.length = N) (hN : 32 ≤ N) (hd : dl.length = 32) : (∀ j, j < 32 → zs.getD (N - 32 + j) 0 = dl.getD j 0) ↔ zs.drop (N - 32) = dl := by
  constructor
  · intro h
    apply List.ext_getElem
    · rw [List.length_drop]; omega
    · intro i h1 h2
      have := h i (by omega)
      rw [List.getD_eq_getElem?_getD, List.getD_eq_getElem?_getD, List.getElem?_eq_getElem (by omega), List.getElem?_eq_getElem h2] at this
      rw [List.getElem_drop]
      exact this
  · intro h j hj
    rw [← h, List.getD_eq_getElem?_getD, List.getD_eq_getElem?_getD, List.getElem?_drop]
/-- The loop that holds the end against the digest. -/
def SplA (Z D N : Nat) (zs dl : List Int) (w wr : World) : Prop := Below w.heap.size w wr ∧ RowA .u8 5 wr Z N (fun i => zs.getD i 0) ∧ RowA .u8 44 wr D 32 (fun i => dl.getD i 0)
theorem SplA.drewN {Z D N : Nat} {zs dl : List Int} {w wr : World} (h : SplA Z D N zs dl w wr) (m : Nat) : SplA Z D N zs dl w (wr.drewN m) := ⟨below_drewN h.1 m, h.2.1, h.2.2⟩
/-- The loop that spoils the copy. -/
def SpoA (N : Nat) (zs : List Int) (w wr : World) : Prop := zs.length = N ∧ Bytes zs ∧ Below w.heap.size w wr ∧ RowA .u8 5 wr w.heap.size N (fun i => zs.getD i 0)
theorem SpoA.put {N : Nat} {zs : List Int} {w wr : World} (h : SpoA N zs w wr) (k : Nat) (hk : k < N) (y : Int) (hy : 0 ≤ y ∧ y < 256) : SpoA N (zs.set k y) w (wr.setCell ⟨w.heap.size, k, none⟩ (.int .u8 y)) := by
  obtain ⟨h1, h2, h3, h4⟩ := h
  refine ⟨by rw [List.length_set]; exact h1, fun x hx => ?_, h3.setCell (p := ⟨w.heap.size, k, none⟩) (Nat.le_refl _) _, (h4.put k y).congr fun i hi => ?_⟩
  · rcases List.mem_or_eq_of_mem_set hx with h | rfl
    · exact h2 x h
    · exact hy
  · simp only [List.getD_eq_getElem?_getD, List.getElem?_set]
    by_cases e : i = k
    · subst e; rw [if_pos rfl, if_pos rfl, if_pos (by omega)]; rfl
    · rw [if_neg e, if_neg (fun h => e h.symm)]
theorem SpoA.drew {N : Nat} {zs : List Int} {w wr : World} (h : SpoA N zs w wr) : SpoA N zs w wr.drew := ⟨h.1, h.2.1, below_drewN h.2.2.1 1, h.2.2.2⟩
set_option maxHeartbeats 4000000 in
set_option maxRecDepth 100000 in
theorem spoilt_law (K : Nat → Int) (S : St) (s : Sup) (v1 v2 : Value) (ps ts : List Int) (w : World) (hT : Tab K S w) (hk : Kinds s) (h1 : Rd .i64 w v1 ps) (h2 : Rd .u8 w v2 ts) (hm1 : ps.length ≤ 140737488351232) (hm2 : ts.length ≤ 140737488351232) :
    Calls Tryd.prog 8 #[.agg s.arr, v1, v2] w (DoneT w) := by
  obtain ⟨A1, c1, rfl⟩ := h1.slice
  obtain ⟨A2, c2, rfl⟩ := h2.slice
  obtain ⟨n1, en1⟩ : ∃ n, n = ps.length := ⟨_, rfl⟩
  obtain ⟨n2, en2⟩ : ∃ n, n = ts.length := ⟨_, rfl⟩
  rw [← en1] at h1 hm1 ⊢
  rw [← en2] at h2 hm2 ⊢
  have HS1 := Lib.hid (rd_some h1)
  have HS2 := Lib.hid (rd_some h2)
  obtain ⟨wb, ewb⟩ : ∃ wb, wb = w.alloc (.cells s.arr 27) := ⟨_, rfl⟩
  have hbb : Below w.heap.size w wb := by rw [ewb]; exact (Below.refl _ _).alloc (Nat.le_refl _) _
  have hA0 : Blk wb w.heap.size 27 s.arr := by rw [ewb]; exact Blk.newAt _ _ _ _ rfl
  have hlw := lawful_ok s wb
  simp only [Sup.arr] at hlw ewb
  have HLW := Lib.hid hlw
  have HA0 := Lib.hid hA0
  have HBB := Lib.hid hbb
  have HT := Lib.hid hT
  have HK := Lib.hid hk
  have EWB := Lib.hid ewb
  clear hlw hbb hT hk ewb hA0 h1 h2 en1 en2
  simp only [Sup.arr]
  go_enter Tryd.func8, Tryd.ntmps8
  go_wp2_with fail
  rw [← EWB.out]
  refine HLW.out.mono ?_
  rintro e w1 ⟨⟨r1, rfl, hr1⟩, hb1⟩
  have hA1 : Blk w1 w.heap.size 27 s.arr := HA0.out.below hb1 HA0.out.lt
  have hbw1 : Below w.heap.size w w1 := HBB.out.trans (hb1.mono HBB.out.size)
  have hsl := seal_ok K S s w1 (HT.out.belowS hbw1) HK.out.2.2.2.2.2.1 HK.out.2.2.2.2.2.2 HK.out.2.1.1 HK.out.2.2.1.1 HK.out.2.2.2.1.1 HK.out.2.2.2.2.1.1
  have b0 := hA1.cell 0
  have b1 := hA1.cell 1
  have b2 := hA1.cell 2
  have b3 := hA1.cell 3
  have b4 := hA1.cell 4
  have b5 := hA1.cell 5
  have b6 := hA1.cell 6
  have b7 := hA1.cell 7
  have b8 := hA1.cell 8
  have b9 := hA1.cell 9
  simp only [Sup.arr, List.getElem?_toArray, List.getElem?_cons_zero, List.getElem?_cons_succ] at b0 b1 b2 b3 b4 b5 b6 b7 b8 b9
  simp only [Sup.arr] at hsl
  have HSL := Lib.hid hsl
  have HA1 := Lib.hid hA1
  have HW1 := Lib.hid hbw1
  have HR1 := Lib.hid hr1
  clear hsl hA1 hbw1 hb1 hr1 HLW
  rcases r1 with _ | _
  · go_wp2_with fail
    go_ret
    exact ⟨rfl, HW1.out⟩
  have hf := HR1.out.1 rfl
  have HF := Lib.hid hf
  clear hf
  obtain ⟨N, eN⟩ : ∃ N, N = s.sz.toNat := ⟨_, rfl⟩
  have h5 := HF.out.2.2.2.2.1
  have hN : 128 ≤ N ∧ N ≤ 1024 ∧ s.sz = (N : Int) := by unfold okSize at h5; omega
  obtain ⟨hN1, hN2, hNs⟩ := hN
  obtain ⟨xs, exs⟩ : ∃ xs, xs = sealL K S s := ⟨_, rfl⟩
  have hlen : xs.length = N := by rw [exs, sealL_length K S s h5, eN]
  have HLen := Lib.hid hlen
  have HNs := Lib.hid hNs
  have EN := Lib.hid eN
  have EXS := Lib.hid exs
  clear h5 eN exs hlen HR1 hNs
  go_wp2_with fail
  refine HSL.out.mono ?_
  rintro e w2 ⟨hb2, hq⟩
  rcases hq.symm with ⟨hno, _⟩ | ⟨_, B, hB, rfl, hrow⟩
  · exact absurd HF.out hno
  rw [← EN.out, ← EXS.out] at hrow
  have hA2 : Blk w2 w.heap.size 27 s.arr := HA1.out.below hb2 HA1.out.lt
  have hbw2 : Below w.heap.size w w2 := HW1.out.trans (hb2.mono HW1.out.size)
  have hcp := copyB_ok B N xs w2 (by rw [HLen.out]; exact hrow) (by rw [HLen.out]; omega)
  rw [HLen.out] at hcp
  have HCP := Lib.hid hcp
  have HRow := Lib.hid hrow
  have HW2 := Lib.hid hbw2
  clear b0 b1 b2 b3 b4 b5 b6 b7 b8 b9
  have b2 := hA2.cell 2
  simp only [Sup.arr, List.getElem?_toArray, List.getElem?_cons_zero, List.getElem?_cons_succ] at b2
  have tN : ((N : Int) != s.sz) = false := by rw [HNs.out]; simp
  clear hcp hrow hbw2 hA2 hb2 hq HSL
  rw [← EN.out]
  go_wp2_with fail
  refine HCP.out.mono ?_
  rintro e w3 ⟨rfl, hb3, hrow3⟩
  rw [HLen.out] at hrow3 ⊢
  have HB3 := Lib.hid hb3
  have HRow3 := Lib.hid hrow3
  clear hb3 hrow3 HCP b2 tN
  go_wp2_with fail
  go_loopw [11] (fun i wr => ∃ (t : Nat) (zs : List Int), t ≤ n1 ∧ t ≤ n2 ∧ i = .int .i64 t ∧ SpoA N zs w2 wr) (fun i _ => n1 - (intOf i).toNat)
  case atStart => exact ⟨0, xs, by omega, by omega, rfl, HLen.out, by rw [EXS.out]; exact sealL_bytes K S s, HB3.out, HRow3.out⟩
  case round =>
    obtain ⟨t, zs, ht1, ht2, rfl, hP⟩ := hrel
    have HP := Lib.hid hP
    clear hP
    by_cases hin : t < n1 ∧ t < n2
    · obtain ⟨q1, q2⟩ := hin
      obtain ⟨a1, o1, rfl, g1, g2, g3⟩ := HS1.out (by omega)
      obtain ⟨a2, o2, rfl, g4, g5, g6⟩ := HS2.out (by omega)
      have hwr : Below w.heap.size w wr := HW2.out.trans (HP.out.2.2.1.mono HW2.out.size)
      have cp : wr.cell? ⟨a1, o1 + t, none⟩ = some (.int .i64 (ps.getD t 0)) := (hwr.cell (p := ⟨a1, o1 + t, none⟩) g2).trans (g3 t q1)
      have ct : wr.cell? ⟨a2, o2 + t, none⟩ = some (.int .u8 (ts.getD t 0)) := (hwr.cell (p := ⟨a2, o2 + t, none⟩) g5).trans (g6 t q2)
      obtain ⟨p, ep⟩ : ∃ p, p = ps.getD t 0 := ⟨_, rfl⟩
      obtain ⟨q, eq⟩ : ∃ q, q = ts.getD t 0 := ⟨_, rfl⟩
      rw [← ep] at cp
      rw [← eq] at ct
      clear g2 g3 g5 g6 hwr ep eq HS1 HS2
      by_cases hp : 0 ≤ p ∧ p < (N : Int)
      · obtain ⟨k, rfl⟩ : ∃ k : Nat, p = k := ⟨p.toNat, by omega⟩
        have hkN : k < N := by omega
        have cz := HP.out.2.2.2.cell k hkN
        have fz := HP.out.2.2.2.free k
        obtain ⟨y, ey⟩ : ∃ y, y = zs.getD k 0 := ⟨_, rfl⟩
        rw [← ey] at cz
        clear ey hp
        go_wp2_with fail
        go_still_tail 17, (by kernel_rfl)
        go_wp2_with fail
        go_roundw
        case rel => exact ⟨t + 1, zs.set k (bits .xor .u8 y q), by omega, by omega, by go_num, HP.out.drew.put k hkN _ (xor_byte y q)⟩
        case measure => simp [intOf] <;> omega
      · have hp2 : ¬ (0 ≤ p) ∨ ¬ (p < (N : Int)) := by omega
        rcases hp2 with hp2 | hp2
        · clear hp
          go_wp2_with fail
          go_roundw
          case rel => exact ⟨t + 1, zs, by omega, by omega, by go_num, HP.out⟩
          case measure => simp [intOf] <;> omega
        · have hp0 : 0 ≤ p := by omega
          clear hp
          go_wp2_with fail
          go_roundw
          case rel => exact ⟨t + 1, zs, by omega, by omega, by go_num, HP.out⟩
          case measure => simp [intOf] <;> omega
    · have hout : (¬ t < n1) ∨ (t < n1 ∧ ¬ t < n2) := by omega
      have hrB : RowA .u8 5 wr B N (fun i => xs.getD i 0) := HRow.out.below HP.out.2.2.1 HRow.out.lt
      have hrZ := HP.out.2.2.2
      have hwr : Below w.heap.size w wr := HW2.out.trans (HP.out.2.2.1.mono HW2.out.size)
      have hzl : zs.length = N := HP.out.1
      have hzb : Bytes zs := HP.out.2.1
      have hrd : Rd .u8 wr (.slice (some ⟨w2.heap.size, 0, none⟩) N N) zs := by
        have := rdPart hrZ hzl (Nat.le_refl N)
        rw [List.take_of_length_le (by omega)] at this
        exact this
      have hun := unseal_ok K S _ zs wr (HT.out.belowS hwr) hrd hzb
      obtain ⟨⟨su, x⟩, er⟩ : ∃ r, r = unF K S zs := ⟨_, rfl⟩
      rw [← er] at hun
      have ex : (unF K S zs).2 = x := by rw [← er]
      have hzok : okSize (zs.length : Int) := by rw [hzl, ← HNs.out]; exact HF.out.2.2.2.2.1
      have HUN := Lib.hid hun
      have HRB := Lib.hid hrB
      have HRZ := Lib.hid hrZ
      have HWR := Lib.hid hwr
      have HZL := Lib.hid hzl
      have HZB := Lib.hid hzb
      have EX := Lib.hid ex
      have HZok := Lib.hid hzok
      clear hun hrB hrZ hwr hzl hzb hrd er ex hin HP HS1 HS2 HRow HRow3 HB3 HW2 HW1 HA1 HA0 HBB EWB hzok
      rcases hout with e1 | ⟨e1, e2⟩
      all_goals
        go_wp2_with fail
        refine HUN.out.mono ?_
        rintro e w4 ⟨rfl, hb4⟩
        obtain ⟨wU, ewU⟩ : ∃ wU, wU = w4.alloc (.cells su.arr 27) := ⟨_, rfl⟩
        have hb4w : Below w.heap.size w w4 := HWR.out.trans (hb4.mono HWR.out.size)
        have hbU : Below w.heap.size w wU := by rw [ewU]; exact hb4w.alloc hb4w.size _
        have hBU : RowA .u8 5 wU B N (fun i => xs.getD i 0) := by rw [ewU]; exact (HRB.out.below hb4 HRB.out.lt).alloc _
        have hZU : RowA .u8 5 wU w2.heap.size N (fun i => zs.getD i 0) := by rw [ewU]; exact (HRZ.out.below hb4 HRZ.out.lt).alloc _
        have hTU : Tab K S wU := HT.out.belowS hbU
        have hs8 := fun n => part_same 8 B w2.heap.size N xs zs (wU.drewN n) (hBU.drewN n) (hZU.drewN n) HLen.out HZL.out (by omega) hN2
        have HBU := Lib.hid hBU
        have HZU := Lib.hid hZU
        have HTU := Lib.hid hTU
        have HWU := Lib.hid hbU
        simp only [Sup.arr] at ewU
        have EWU := Lib.hid ewU
        clear hb4 hb4w hbU hBU hZU hTU ewU HUN HRB HRZ HWR
        simp only [Sup.arr]
        have p1 : (8 : Int) ≤ (N : Int) := by omega
        have p2 : (8 : Nat) ≤ N := by omega
        by_cases h8 : xs.take 8 = zs.take 8
        · rw [decide_eq_true h8] at hs8
          have HS8 := Lib.hid hs8
          have H8 := Lib.hid h8
          clear hs8 h8
          go_wp2_with fail
          rw [← EWU.out]
          go_quiet ((go_at_call 12; first | exact same_quiet1 (HS8.out _) | exact same_quiet (HS8.out _)))
          obtain ⟨m5, em5⟩ : ∃ m, m = nq := ⟨_, rfl⟩
          rw [← em5]
          clear em5
          have hst := fun n => part_same (N - 32) B w2.heap.size N xs zs (wU.drewN n) (HBU.out.drewN n) (HZU.out.drewN n) HLen.out HZL.out (by omega) hN2
          have n1' : (32 : Int) ≤ (N : Int) := by omega
          have n2' : N - 32 ≤ N := by omega
          have n4 : IntKind.i64.wrap ((N : Int) - 32) = (N : Int) - 32 := IntWalk.i64_in _ (by omega)
          have n3 : (N : Int) - 32 ≤ (N : Int) := by omega
          have n5 : (0 : Int) ≤ (N : Int) - 32 := by omega
          have n6 : ((N : Int) - 32).toNat = N - 32 := by omega
          by_cases ht : xs.take (N - 32) = zs.take (N - 32)
          · rw [decide_eq_true ht] at hst
            have HST := Lib.hid hst
            have HTt := Lib.hid ht
            clear hst ht HS8
            go_wp2_with fail
            go_quiet ((go_at_call 12; first | exact same_quiet1 (HST.out _) | exact same_quiet (HST.out _)))
            obtain ⟨m6, em6⟩ : ∃ m, m = nq := ⟨_, rfl⟩
            rw [← em6]
            clear em6
            have hlL : zs.length = (sealL K S s).length := by rw [← EXS.out, HLen.out]; exact HZL.out
            rcases sp_same K S s zs HF.out HK.out hlL (by rw [← EXS.out, HLen.out]; exact HTt.out) with ⟨g1, g2⟩ | ⟨g1, g2⟩
            · have hx : x = 0 := by rw [← EX.out]; exact g2
              have hrr : decide (xs.take N = zs.take N) = true := by rw [EXS.out, g1]; simp
              have hsa := fun n => part_same N B w2.heap.size N xs zs (wU.drewN n) (HBU.out.drewN n) (HZU.out.drewN n) HLen.out HZL.out (Nat.le_refl N) hN2
              simp only [hrr] at hsa
              subst hx
              have HSA := Lib.hid hsa
              clear hsa hrr g1 g2 hlL HST HTt EX
              go_wp2_with fail
              refine (HSA.out _).mono ?_
              rintro e w8 ⟨m8, rfl, rfl⟩
              rw [drewN_two]
              go_wp2_with fail
              refine (HSA.out _).mono ?_
              rintro e w9 ⟨m9, rfl, rfl⟩
              go_wp2_with fail
              go_ret
              exact ⟨rfl, ⟨HWU.out.os, HWU.out.tape, HWU.out.output, HWU.out.size, HWU.out.block⟩⟩
            · have hx : x = 52 := by rw [← EX.out]; exact g2
              have hrr : decide (xs.take N = zs.take N) = false := by
                rw [decide_eq_false_iff_not, List.take_of_length_le (by rw [HLen.out]; exact Nat.le_refl _), List.take_of_length_le (by rw [HZL.out]; exact Nat.le_refl _), EXS.out]
                exact g1
              have hsa := fun n => part_same N B w2.heap.size N xs zs (wU.drewN n) (HBU.out.drewN n) (HZU.out.drewN n) HLen.out HZL.out (Nat.le_refl N) hN2
              simp only [hrr] at hsa
              subst hx
              have HSA := Lib.hid hsa
              clear hsa hrr g1 g2 hlL HST HTt EX
              go_wp2_with fail
              refine (HSA.out _).mono ?_
              rintro e w8 ⟨m8, rfl, rfl⟩
              rw [drewN_two]
              go_wp2_with fail
              refine (HSA.out _).mono ?_
              rintro e w9 ⟨m9, rfl, rfl⟩
              go_wp2_with fail
              go_ret
              exact ⟨rfl, ⟨HWU.out.os, HWU.out.tape, HWU.out.output, HWU.out.size, HWU.out.block⟩⟩
          · rw [decide_eq_false ht] at hst
            have HST := Lib.hid hst
            clear hst ht HS8
            go_wp2_with fail
            go_quiet ((go_at_call 12; first | exact same_quiet1 (HST.out _) | exact same_quiet (HST.out _)))
            obtain ⟨m6, em6⟩ : ∃ m, m = nq := ⟨_, rfl⟩
            rw [← em6]
            clear em6
            have hsum := sum256_ok K S _ _ (wU.drewN (m5 + m6)) (HTU.out.drewN (m5 + m6)) (rdPart (k := N - 32) (HZU.out.drewN (m5 + m6)) HZL.out (by omega))
            have HSum := Lib.hid hsum
            clear hsum HST
            go_wp2_with fail
            refine HSum.out.mono ?_
            rintro e w7 ⟨rfl, hb7⟩
            obtain ⟨z32, hz32, e32⟩ : ∃ zc : Array Value, (∀ w, (zeroValue 44).run Tryd.prog w = .ok (.agg zc) w) ∧ zc = (List.replicate 32 (Value.int .u8 0)).toArray :=
              ⟨(List.replicate 32 (Value.int .u8 0)).toArray, fun w => by kernel_rfl, rfl⟩
            unfold aggOf
            obtain ⟨dl, edl⟩ : ∃ dl, dl = shaF K S (zs.take (N - 32)) := ⟨_, rfl⟩
            rw [← edl]
            have hdl : dl.length = 32 := by rw [edl, shaF_length]
            obtain ⟨sa, esa⟩ : ∃ sa, sa = (dl.map (Value.int .u8)).toArray := ⟨_, rfl⟩
            rw [← esa]
            have k1 : (Tryd.prog.info? 44).map (·.size) = some sa.size := by rw [esa]; simp only [List.size_toArray, List.length_map, hdl]; exact sum_size
            have k2 : z32.size = sa.size := by rw [e32, esa]; simp [hdl]
            have k3 : sa.all (·.oneCell') = true := by rw [esa]; exact sh_one _ _
            have hb7' : Below wU.heap.size wU w7 := below_of_drewN hb7
            have hbw7 : Below w.heap.size w w7 := HWU.out.trans (hb7'.mono HWU.out.size)
            have hZ7 : RowA .u8 5 w7 w2.heap.size N (fun i => zs.getD i 0) := HZU.out.below hb7' HZU.out.lt
            have hZlt : w2.heap.size < w7.heap.size := hZ7.lt
            have hxl : zs.take 8 = lettersL := by rw [← H8.out, EXS.out, seal_letters]
            have hxs : (zs.drop (N - 32) = dl → x = 0 ∨ x = 53) ∧ (zs.drop (N - 32) ≠ dl → x = 52) := by
              rw [edl, ← EX.out]
              have q1 := sp_rest K S zs HZok.out hxl
              have q2 := sp_seal K S zs HZok.out hxl
              rw [HZL.out] at q1 q2
              exact ⟨q1, q2⟩
            have HXS := Lib.hid hxs
            have HDrop := Lib.hid (drop_iff zs dl N HZL.out (by omega) hdl)
            have K1 := Lib.hid k1
            have K2 := Lib.hid k2
            have K3 := Lib.hid k3
            have Esa := Lib.hid esa
            have HDL := Lib.hid hdl
            have HW7 := Lib.hid hbw7
            have HZ7 := Lib.hid hZ7
            clear k1 k2 k3 esa e32 edl hdl hb7 hb7' hbw7 hZ7 hxs hxl HSum HBU HZU HTU HWU EX H8
            go_wp2_with (refine wpList_store_row rfl 44 (.tmp 15) (.tmp 123) rfl w7.heap.size sa rfl rfl 44 z32 (Blk.newAt w7 w7.heap.size _ z32 rfl) K1.out K2.out K3.out ?_; rw [World.setRow_alloc_new])
            go_loopw [16, 17] (fun b i wq => ∃ (m : Nat) (bb : Bool), m ≤ 32 ∧ b = .bool bb ∧ i = .int .i64 m ∧ (bb = true ↔ ∀ j, j < m → zs.getD (N - 32 + j) 0 = dl.getD j 0) ∧ SplA w2.heap.size w7.heap.size N zs dl w wq) (fun _ i _ => 32 - (intOf i).toNat)
            case atStart =>
              refine ⟨0, true, by omega, rfl, rfl, ⟨fun _ j hj => absurd hj (Nat.not_lt_zero j), fun _ => rfl⟩, HW7.out.alloc HW7.out.size _, HZ7.out.alloc _, ?_⟩
              have hb : Blk (w7.alloc (.cells sa 44)) w7.heap.size 44 (dl.map (Value.int .u8)).toArray := by rw [Esa.out]; exact Blk.newAt _ _ _ _ rfl
              have := RowA.list hb
              rw [HDL.out] at this
              exact this
            case round =>
              obtain ⟨m, bb, hm, rfl, rfl, hbb, hP⟩ := hrel
              have HP := Lib.hid hP
              have HBb := Lib.hid hbb
              clear hP hbb
              by_cases hlt : m < 32
              · have c0 := HP.out.2.1.cell (N - 32 + m) (by omega)
                have c1 := HP.out.2.2.cell m hlt
                obtain ⟨p, ep⟩ : ∃ p, p = zs.getD (N - 32 + m) 0 := ⟨_, rfl⟩
                obtain ⟨q, eq⟩ : ∃ q, q = dl.getD m 0 := ⟨_, rfl⟩
                rw [← ep] at c0
                rw [← eq] at c1
                have hnew : ∀ b2 : Bool, b2 = (bb && decide (p = q)) → (b2 = true ↔ ∀ j, j < m + 1 → zs.getD (N - 32 + j) 0 = dl.getD j 0) := by
                  intro b2 h2
                  rw [h2, Bool.and_eq_true, decide_eq_true_eq, HBb.out, ep, eq]
                  constructor
                  · rintro ⟨h1, h3⟩ j hj
                    by_cases e : j = m
                    · rw [e]; exact h3
                    · exact h1 j (by omega)
                  · intro h; exact ⟨fun j hj => h j (by omega), h m (by omega)⟩
                have HNew := Lib.hid hnew
                have l4 : IntKind.i64.wrap ((N : Int) - 32) = (N : Int) - 32 := IntWalk.i64_in _ (by omega)
                have l5 : IntKind.i64.wrap ((N : Int) - 32 + (m : Int)) = (N : Int) - 32 + (m : Int) := IntWalk.i64_in _ (by omega)
                have l6 : (0 : Int) ≤ (N : Int) - 32 + (m : Int) := by omega
                have l7 : ((N : Int) - 32 + (m : Int)).toNat = N - 32 + m := by omega
                have l8 : (N : Int) - 32 + (m : Int) < (N : Int) := by omega
                have l9 : N - 32 + m < N := by omega
                clear hnew ep eq
                rcases bb with _ | _
                · go_wp2_with fail
                  go_quiet (fail)
                  go_wp2_with fail
                  go_roundw
                  case rel => exact ⟨m + 1, false, by omega, rfl, by go_num, HNew.out false rfl, HP.out.drewN nq⟩
                  case measure => simp [intOf] <;> omega
                · by_cases hpq : p = q
                  · have tq : (p == q) = true := by rw [hpq]; exact beq_self_eq_true q
                    have tr : decide (p = q) = true := decide_eq_true hpq
                    have hn := HNew.out true (by rw [tr]; rfl)
                    have HN := Lib.hid hn
                    clear hn hpq tr
                    go_wp2_with fail
                    go_quiet (fail)
                    go_wp2_with fail
                    go_roundw
                    case rel => exact ⟨m + 1, true, by omega, rfl, by go_num, by simpa using HN.out, HP.out.drewN nq⟩
                    case measure => simp [intOf] <;> omega
                  · have tq : (p == q) = false := by rw [beq_eq_false_iff_ne]; exact hpq
                    have tr : decide (p = q) = false := decide_eq_false hpq
                    have hn := HNew.out false (by rw [tr]; rfl)
                    have HN := Lib.hid hn
                    clear hn hpq tr
                    go_wp2_with fail
                    go_quiet (fail)
                    go_wp2_with fail
                    go_roundw
                    case rel => exact ⟨m + 1, false, by omega, rfl, by go_num, HN.out, HP.out.drewN nq⟩
                    case measure => simp [intOf] <;> omega
              · obtain rfl : m = 32 := by omega
                have hfin := HP.out.1
                have hb2 := HBb.out.trans HDrop.out
                have HFin := Lib.hid hfin
                rcases bb with _ | _
                · have hx : x = 52 := HXS.out.2 (fun h => Bool.noConfusion (hb2.2 h))
                  subst hx
                  clear hb2 hfin HP HXS HBb HDrop
                  go_wp2_with fail
                  go_ret
                  exact ⟨rfl, ⟨HFin.out.os, HFin.out.tape, HFin.out.output, HFin.out.size, HFin.out.block⟩⟩
                · rcases HXS.out.1 (hb2.1 rfl) with hx | hx
                  all_goals
                    subst hx
                    clear hb2 hfin HP HXS HBb HDrop
                    go_wp2_with fail
                    go_ret
                    exact ⟨rfl, ⟨HFin.out.os, HFin.out.tape, HFin.out.output, HFin.out.size, HFin.out.block⟩⟩
        · rw [decide_eq_false h8] at hs8
          have hx : x = 51 := by rw [← EX.out]; exact sp_letters K S zs HZok.out (fun h => h8 (by rw [h, EXS.out, seal_letters]))
          subst hx
          have HS8 := Lib.hid hs8
          clear hs8 h8
          go_wp2_with fail
          rw [← EWU.out]
          go_quiet ((go_at_call 12; first | exact same_quiet1 (HS8.out _) | exact same_quiet (HS8.out _)))
          obtain ⟨m5, em5⟩ : ∃ m, m = nq := ⟨_, rfl⟩
          rw [← em5]
          clear em5
          go_wp2_with fail
          go_ret
          exact ⟨rfl, ⟨HWU.out.os, HWU.out.tape, HWU.out.output, HWU.out.size, HWU.out.block⟩⟩
end Go.Proofs.YtjcinelcocmpnaaDoor
