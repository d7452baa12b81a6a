/- The document's superblock, sealed: Seal. -/
import Derived.Test.YtjcinelcocmpnaaDoorRefJ
import Derived.Test.YtjcinelcocmpnaaDoorRefE
import Derived.Test.YtjcinelcocmpnaaDoorRefC
import Derived.Deep.DeepCutAuto
namespace Go.Proofs.YtjcinelcocmpnaaDoor
open Go.RowKit
set_option linter.unusedVariables false
set_option linter.unusedSimpArgs false
/-- What the document's Seal answers. -/
def RsQ (ks : List Int) (S : St) (s : Sup) (w : World) (e : Ending) (w' : World) : Prop :=
  (Fits s ∧ ∃ u, e = .returned (.tuple #[u, .int .i64 0]) ∧ PdA s.sz.toNat (sealL (fun i => ks.getD i 0) S s) u w w') ∨ (¬ Fits s ∧ e = .returned (.tuple #[.slice none 0 0, .int .i64 53]) ∧ Below w.heap.size w w')
/-- What is known behind the digest's statement. -/
def CutK (B : Nat) (sa : Array Value) (v : World) (t : Value) (wx : World) : Prop := ∃ D, t = .pointer (some ⟨D, 0, none⟩) ∧ Blk wx D 44 sa ∧ B < D ∧ Below v.heap.size v wx
theorem PdA.of_row {N g : Nat} {l : List Int} {w wr : World} (hl : l.length = N) (hN : N ≤ 4096) (hb : Below w.heap.size w wr) (hg : w.heap.size ≤ g) (hr : RowA .u8 5 wr g N (fun i => l.getD i 0)) : PdA N l (.slice (some ⟨g, 0, none⟩) N N) w wr := by
  subst hl
  have h := hr.arr
  refine ⟨rfl, hb, by simp, .inr ⟨g, l.length, _, rfl, hg, h.out, Nat.le_refl _, by unfold maxLen; omega, by simp, by rw [Nat.mul_one]; exact List.take_of_length_le (by simp)⟩⟩
theorem PdA.later {N : Nat} {l : List Int} {u : Value} {w wr w1 : World} (h : PdA N l u w wr) (hb : Below wr.heap.size wr w1) : PdA N l u w w1 := by
  obtain ⟨h1, h2, h3⟩ := h
  refine ⟨h1, h2.trans (hb.mono h2.size), h3.1, ?_⟩
  rcases h3.2 with h | ⟨g, cap, cur, e, a1, a2, a3⟩
  · exact .inl h
  · exact .inr ⟨g, cap, cur, e, a1, (hb.block g (Array.getElem?_eq_some_iff.1 a2).1).trans a2, a3⟩
/-- The bytes under way behind the head. -/
def RkA (D : Nat) (sa : Array Value) (N : Nat) (l : List Int) (u : Value) (w wr : World) : Prop := PdA N l u w wr ∧ Blk wr D 44 sa
theorem RkA.step {D : Nat} {sa : Array Value} {N : Nat} {l : List Int} {u u' : Value} {w wr w2 : World} (h : RkA D sa N l u w wr) (y : Int) (ho : w2.ownsRow w.heap.size 5 1 u' (N + 1) (l.map (Value.int .u8) ++ [Value.int .u8 y])) (hg : wr.grownBy w2 u.ownBlock) : RkA D sa (N + 1) (l ++ [y]) u' w w2 := by
  refine ⟨h.1.grow (l2 := [y]) rfl h.1.2.1 ho hg, (hg.block D h.2.lt (h.2.ne_own h.1.2.2 (by decide))).trans h.2⟩
theorem sha_take (l : List Int) (q : Nat) (h : q < l.length) : l.take (q + 1) = l.take q ++ [l.getD q 0] := by
  rw [List.take_add_one, List.getD_eq_getElem?_getD, List.getElem?_eq_getElem h]; rfl
set_option maxHeartbeats 1000000 in
set_option maxRecDepth 100000 in
theorem rseal_no (ks : List Int) (S : St) (s : Sup) (w : World) (hno : ¬ Fits s) : Calls Tryd.prog 11 #[.agg s.arr] w (RsQ ks S s w) := by
  obtain ⟨wb, ewb⟩ : ∃ wb, wb = w.alloc (.cells s.arr 27) := ⟨_, rfl⟩
  have hft := rfit_ok s wb
  have hbb : Below w.heap.size w wb := by rw [ewb]; exact (Below.refl _ _).alloc (Nat.le_refl _) _
  obtain ⟨Q, eQ⟩ : ∃ Q, Q = RsQ ks S s w := ⟨_, rfl⟩
  obtain ⟨F, eF⟩ : ∃ F, F = FtQ s wb := ⟨_, rfl⟩
  rw [← eQ]
  rw [← eF] at hft
  simp only [Sup.arr] at hft ewb ⊢
  have HFT := Lib.hid hft
  have HBB := Lib.hid hbb
  have EWB := Lib.hid ewb
  have EQ := Lib.hid eQ
  have EF := Lib.hid eF
  have HNO := Lib.hid hno
  clear hft hbb ewb eQ hno eF
  go_enter Tryd.func11, Tryd.ntmps11
  go_wp2_with fail
  rw [← EWB.out]
  refine HFT.out.mono ?_
  rw [EF.out]
  rintro e w1 ⟨⟨r, rfl, hr⟩, hb1⟩
  obtain rfl : r = false := by cases r; rfl; exact absurd (hr.1 rfl) HNO.out
  have hfin : Q (.returned (.tuple #[.slice none 0 0, .int .i64 53])) w1 := by
    rw [EQ.out]; exact .inr ⟨HNO.out, rfl, HBB.out.trans (hb1.mono HBB.out.size)⟩
  have HF := Lib.hid hfin
  clear hr hb1 hfin
  go_wp2_with fail
  exact HF.out
set_option maxHeartbeats 2000000 in
set_option maxRecDepth 100000 in
theorem rseal_yes (ks : List Int) (S : St) (s : Sup) (w : World) (hT : TabR ks S w) (hks : ks.length = 64) (hf : Fits s) (hk : Kinds s) : Calls Tryd.prog 11 #[.agg s.arr] w (RsQ ks S s w) := by
  obtain ⟨N, hN⟩ : ∃ N : Nat, s.sz = N := ⟨s.sz.toNat, by have := hf.2.2.2.2.1; unfold okSize at this; omega⟩
  have h5 := hf.2.2.2.2.1
  have hn : 128 ≤ N ∧ N ≤ 1024 := by unfold okSize at h5; omega
  obtain ⟨n1, n2⟩ := hn
  have hhl : (headL s).length = N - 32 := by rw [headL_length s h5, hN]; omega
  obtain ⟨wb, ewb⟩ : ∃ wb, wb = w.alloc (.cells s.arr 27) := ⟨_, rfl⟩
  have hft := rfit_ok s wb
  have hbb : Below w.heap.size w wb := by rw [ewb]; exact (Below.refl _ _).alloc (Nat.le_refl _) _
  have hsb : Blk wb w.heap.size 27 s.arr := by rw [ewb]; exact Blk.newAt _ _ _ _ rfl
  have hTb : TabR ks S wb := by rw [ewb]; exact hT.alloc _
  have hhd := fun w1 => rhead_ok s N w1 hf hk hN
  obtain ⟨Q, eQ⟩ : ∃ Q, Q = RsQ ks S s w := ⟨_, rfl⟩
  obtain ⟨F, eF⟩ : ∃ F, F = FtQ s wb := ⟨_, rfl⟩
  rw [← eQ]
  rw [← eF] at hft
  have HSB := Lib.hid hsb
  simp only [Sup.arr, hN] at hft ewb hhd ⊢
  have HHD := Lib.hid hhd
  have HFT := Lib.hid hft
  have HBB := Lib.hid hbb
  have EWB := Lib.hid ewb
  have EQ := Lib.hid eQ
  have EF := Lib.hid eF
  have HN := Lib.hid hN
  have HFi := Lib.hid hf
  have HT := Lib.hid hTb
  have HKS := Lib.hid hks
  have HHL := Lib.hid hhl
  clear hft hbb ewb eQ hN hf hk eF hhd hT hTb hsb hks h5 hhl
  go_enter Tryd.func11, Tryd.ntmps11
  go_wp2_with fail
  rw [← EWB.out]
  refine HFT.out.mono ?_
  rw [EF.out]
  rintro e w1 ⟨⟨r, rfl, hr⟩, hb1⟩
  obtain rfl : r = true := hr.2 HFi.out
  have hs1 : Blk w1 w.heap.size 27 s.arr := HSB.out.below hb1 HSB.out.lt
  have hbw1 : Below w.heap.size w w1 := HBB.out.trans (hb1.mono HBB.out.size)
  have hT1 : TabR ks S w1 := HT.out.below hb1
  have c0 := hs1.cell 0
  have c1 := hs1.cell 1
  have c2 := hs1.cell 2
  have c3 := hs1.cell 3
  have c4 := hs1.cell 4
  have c5 := hs1.cell 5
  have c6 := hs1.cell 6
  have c7 := hs1.cell 7
  have c8 := hs1.cell 8
  have c9 := hs1.cell 9
  simp only [Sup.arr, HN.out, List.getElem?_toArray, List.getElem?_cons_zero, List.getElem?_cons_succ] at c0 c1 c2 c3 c4 c5 c6 c7 c8 c9
  have HBW1 := Lib.hid hbw1
  have HT1 := Lib.hid hT1
  clear hr hb1 hs1 hbw1 hT1 HFT EF HSB HT HBB EWB
  go_wp2_with fail
  refine (HHD.out _).mono ?_
  rintro e w2 ⟨g, rfl, hg, hb2, hrow⟩
  clear c0 c1 c2 c3 c4 c5 c6 c7 c8 c9
  have hgl := hrow.lt
  have hpd : PdA (N - 32) (headL s) (.slice (some ⟨g, 0, none⟩) (N - 32) (N - 32)) w w2 := PdA.of_row HHL.out (by omega) (HBW1.out.trans (hb2.mono HBW1.out.size)) (Nat.le_trans HBW1.out.size hg) hrow
  have hT2 : TabR ks S w2 := HT1.out.below hb2
  have HPD := Lib.hid hpd
  obtain ⟨z32, hz32, e32⟩ : ∃ zc : Array Value, (∀ w, (zeroValue 44).run Tryd.prog w = .ok (.agg zc) w) ∧ zc = (List.replicate 32 (Value.int .u8 0)).toArray :=
    ⟨(List.replicate 32 (Value.int .u8 0)).toArray, fun w => by kernel_rfl, rfl⟩
  obtain ⟨dg, edg⟩ : ∃ dg, dg = shaF (fun i => ks.getD i 0) S (headL s) := ⟨_, rfl⟩
  have hdl : dg.length = 32 := by rw [edg, shaF_length]
  obtain ⟨sa, esa⟩ : ∃ sa, sa = (dg.map (Value.int .u8)).toArray := ⟨_, rfl⟩
  have k1 : (Tryd.prog.info? 44).map (·.size) = some sa.size := by rw [esa]; simp only [List.size_toArray, List.length_map, hdl]; exact sum_size
  have k2 : z32.size = sa.size := by rw [e32, esa]; simp [hdl]
  have k3 : sa.all (·.oneCell') = true := by rw [esa]; exact sh_one _ _
  have hst := fun w2 => run_storeAt_new (P := Tryd.prog) w2 44 z32 sa k1 k2 k3
  have hst2 := fun w2 => run_storeCells_new (P := Tryd.prog) w2 44 z32 sa k1 k2 k3
  have hsas : sa.size = 32 := by rw [esa]; simp [hdl]
  have hcl : ∀ i, i < (headL s).length → w2.cell? ⟨g, 0 + i, none⟩ = some (.int .u8 ((headL s).getD i 0)) := fun i hi => by rw [Nat.zero_add]; exact hrow.cell i (by rw [← HHL.out]; exact hi)
  have hsA : Calls Tryd.prog 29 #[.slice (some ⟨g, 0, none⟩) (N - 32) (N - 32)] w2 fun e w' => e = .returned (.agg sa) ∧ Below w2.heap.size w2 w' := by
    have := rsum_ok S ks g 0 (N - 32) (headL s) w2 hT2 HKS.out hgl (by rw [HHL.out]; omega) (by rw [HHL.out]; omega) hcl
    rw [HHL.out, ← edg] at this
    rw [esa]; exact this
  have HSA := Lib.hid hsA
  have K1 := Lib.hid k1
  have K2 := Lib.hid k2
  have K3 := Lib.hid k3
  have ESA := Lib.hid esa
  have EDG := Lib.hid edg
  have HDL := Lib.hid hdl
  clear hsA k1 k2 k3 esa edg hdl e32 hcl hpd hT2 hrow hb2 HT1 HKS HHD HBW1
  go_wp2_with fail
  refine HSA.out.mono ?_
  rintro e w3 ⟨rfl, hb3⟩
  have hD : Blk (w3.alloc (.cells sa 44)) w3.heap.size 44 sa := Blk.newAt _ _ _ _ rfl
  have hp3 : PdA (N - 32) (headL s) (.slice (some ⟨g, 0, none⟩) (N - 32) (N - 32)) w (w3.alloc (.cells sa 44)) := HPD.out.later (hb3.alloc hb3.size _)
  have hr3 : RkA w3.heap.size sa (N - 32) (headL s) (.slice (some ⟨g, 0, none⟩) (N - 32) (N - 32)) w (w3.alloc (.cells sa 44)) := ⟨hp3, hD⟩
  have HR := Lib.hid hr3
  clear hD hp3 hb3 hr3
  go_wp2_with fail
  clear hst hst2 hsas
  go_loopw [5, 7] (fun u i wr => ∃ j : Nat, j ≤ 32 ∧ i = .int .i64 j ∧ RkA w3.heap.size sa (N - 32 + j) (headL s ++ dg.take j) u w wr) (fun _ i _ => 32 - (intOf i).toNat)
  case atStart => exact ⟨0, by omega, rfl, by simpa using HR.out⟩
  case round =>
    obtain ⟨j, hj, rfl, hR⟩ := hrel
    obtain ⟨gu, cap, rfl, hgu, hcap⟩ := hR.1.slice (by omega)
    clear HR
    have HR := Lib.hid hR
    by_cases hlt : j < 32
    · have hc := hR.2.cell j
      have hcj : sa[j]? = some (.int .u8 (dg.getD j 0)) := by
        have : j < dg.length := by rw [HDL.out]; exact hlt
        rw [ESA.out]; simp [this]
      rw [hcj] at hc
      obtain ⟨y, ey⟩ : ∃ y, y = dg.getD j 0 := ⟨_, rfl⟩
      rw [← ey] at hc
      have hkey : dg.take (j + 1) = dg.take j ++ [y] := by rw [ey]; exact sha_take dg j (by rw [HDL.out]; exact hlt)
      obtain ⟨vs, evs⟩ : ∃ vs, vs = (headL s ++ dg.take j).map (Value.int .u8) := ⟨_, rfl⟩
      have hown := hR.1.2.2
      rw [← evs] at hown
      have HO := Lib.hid hown
      have EV := Lib.hid evs
      have EY := Lib.hid ey
      have HKEY := Lib.hid hkey
      clear hR hcj ey evs hown hkey
      go_wp2_with (refine app1 rfl (.tmp 22) (.tmp 26) 28 rfl w.heap.size 5 (.int .u8 0) 1 Tryd.underlying28 hd_info5 rfl _ _ vs rfl HO.out _ 1 rfl rfl ?c1 ?c2 ?c3 ?_)
      case c1 => unfold maxLen; omega
      case c2 => omega
      case c3 => exact HR.out.1.2.1.size
      intro u3 w4 ho3 hg3
      rw [EV.out] at ho3
      have hp3 := HR.out.step y ho3 hg3
      rw [List.append_assoc, ← HKEY.out] at hp3
      have HP3 := Lib.hid hp3
      clear ho3 hg3 hp3 HR HO EV hc
      go_wp2
      go_roundw
      case rel => exact ⟨j + 1, by omega, by go_num, HP3.out⟩
      case measure => simp [intOf] <;> omega
    · obtain rfl : j = 32 := by omega
      have hfin : Q (.returned (.tuple #[.slice (some ⟨gu, 0, none⟩) (N - 32 + 32) cap, .int .i64 0])) wr := by
        rw [EQ.out]
        refine .inl ⟨HFi.out, _, rfl, ?_⟩
        have h := hR.1
        rw [List.take_of_length_le (by rw [HDL.out]; omega), EDG.out] at h
        rw [show s.sz.toNat = N - 32 + 32 by rw [HN.out]; omega]
        exact h
      have HF := Lib.hid hfin
      clear hR hfin
      go_wp2_with fail
      exact HF.out
theorem rseal_ok (ks : List Int) (S : St) (s : Sup) (w : World) (hT : TabR ks S w) (hks : ks.length = 64) (hk : Kinds s) : Calls Tryd.prog 11 #[.agg s.arr] w (RsQ ks S s w) := by
  by_cases hf : Fits s
  · exact rseal_yes ks S s w hT hks hf hk
  · exact rseal_no ks S s w hf
end Go.Proofs.YtjcinelcocmpnaaDoor
