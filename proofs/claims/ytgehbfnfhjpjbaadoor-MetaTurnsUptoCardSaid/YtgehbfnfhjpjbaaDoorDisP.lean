/- The disk's calls: Crash. -/
import Derived.Test.YtgehbfnfhjpjbaaDoorDisO
import Derived.Outline
namespace Go.Proofs.YtgehbfnfhjpjbaaDoor
open Go.RowKit
open Go.ChangeMaps
set_option linter.unusedVariables false
set_option linter.unusedSimpArgs false
def BytesL (l : List Int) : Prop := ∀ x ∈ l, 0 ≤ x ∧ x < 256
theorem BytesL.at {l : List Int} (h : BytesL l) (i : Nat) : 0 ≤ l.getD i 0 ∧ l.getD i 0 < 256 := by
  rw [List.getD_eq_getElem?_getD]
  by_cases hi : i < l.length
  · rw [List.getElem?_eq_getElem hi]; exact h _ (List.getElem_mem hi)
  · rw [List.getElem?_eq_none (by omega)]; simp
/-- How many of n cached writes of block k a crash lets stand. -/
def keepP (ps : List Int) (k n : Nat) : Nat := if ps.length = 0 then 0 else (ps.getD (k % ps.length) 0).toNat % (n + 1)
theorem keepP_le (ps : List Int) (k n : Nat) : keepP ps k n ≤ n := by
  unfold keepP
  split
  · omega
  · have := Nat.mod_lt (ps.getD (k % ps.length) 0).toNat (show 0 < n + 1 by omega); omega
def keepK (s : DSt) (ps : List Int) (k : Nat) : Nat := keepP ps k (s.ca k).length
def crashS (s : DSt) (ps : List Int) : DSt := { allS s (keepK s ps) with off := false, fused := false }
def DoneQ (O : Nat → Prop) (w : World) (d : Nat) (s : DSt) (e : Ending) (w' : World) : Prop := e = .returned (.tuple #[]) ∧ DStep O w w' d s
set_option maxHeartbeats 4000000 in
set_option maxRecDepth 100000 in
theorem crash_ok (O : Nat → Prop) (w : World) (d : Nat) (s : DSt) (pv : Value) (ps : List Int) (h : DRep O w d s) (hp : RdN O w pv ps) (hpb : BytesL ps) (hpl : ps.length ≤ 9223372036854775807) (hcap : ∀ k, (s.ca k).length ≤ 100000000000000) :
    Calls Tryd.prog 9 #[.pointer (some ⟨d, 0, none⟩), pv] w (DoneQ O w d (crashS s ps)) := by
  obtain ⟨m, c, B, ms, mc, F, G, hx, hO, hl⟩ := h
  obtain ⟨Q, eQ⟩ : ∃ Q, Q = DoneQ O w d (crashS s ps) := ⟨_, rfl⟩
  rw [← eQ]
  obtain ⟨A, cp, rfl⟩ := hp.1.slice
  have hnb2 := hx.wf.nb2
  have c3 : w.cell? ⟨d, 3, none⟩ = some (.pointer (some ⟨c, 0, none⟩)) := hx.blk.cell 3
  have k0 : w.cell? ⟨c, 0, none⟩ = some (.map (some mc)) := hx.cac.blk.cell 0
  obtain ⟨P, eP⟩ : ∃ P, P = ps.length := ⟨_, rfl⟩
  have EQ := Lib.hid eQ
  have HX := Lib.hid hx
  have HO := Lib.hid hO
  have HL := Lib.hid hl
  have HCAP := Lib.hid hcap
  have HP := Lib.hid hp
  have HPB := Lib.hid hpb
  have EP := Lib.hid eP
  rw [← eP] at hpl ⊢
  clear eQ hx hO hl hcap hp hpb eP
  go_enter Tryd.func9, Tryd.ntmps9
  go_wp2_with (at_range; refine wpList_range_I _ rfl (.tmp 13) rfl Tryd.underlying59 mc F rfl HX.out.cac.map ?_; intro w2 n0 hrg0 hal)
  have hsw : SweepR O w d m c B ms mc w.heap.size G s (keepK s ps) (fun j => (F j).isSome) n0 w2 := by
    obtain ⟨o, rfl⟩ := hal
    have hbel : Below w.heap.size w (w.alloc o) := (Below.refl _ _).alloc (Nat.le_refl _) _
    refine ⟨F, hrg0, ?_, OnlyP.ofBelow hbel⟩
    rw [stS_start s (keepK s ps) _ (fun k hk => HX.out.car.no k (by simpa using hk)) (fun k hk => by
      unfold keepK
      rw [hk]
      have := keepP_le ps k 0
      exact Nat.le_zero.1 this)]
    exact HX.out.keep (fun b hb => hbel.block b (HL.out b (HO.out b hb))) hbel.size
  have HSW := Lib.hid hsw
  clear hsw hrg0 hal c3 k0
  go_frame
  go_loopw [4, 5, 6] (fun _ _ _ wr => ∃ L n, SweepR O w d m c B ms mc w.heap.size G s (keepK s ps) L n wr) (fun _ _ _ wr => wr.rangeLeft mc w.heap.size)
  case atStart => exact ⟨_, _, HSW.out⟩
  case round =>
    obtain ⟨L, n, F', hrg, hxr, honr⟩ := hrel
    have HRG := Lib.hid hrg
    have HXR := Lib.hid hxr
    have HONR := Lib.hid honr
    clear hrg hxr honr HSW
    go_wp2_with (at_next; refine wpList_next_I _ rfl (.tmp 14) rfl mc w.heap.size F' L n rfl HRG.out ?_ ?_)
    · intro h0 hl0
      have hx9 := HXR.out
      rw [stS_end s (keepK s ps) (fun k => L k) (fun k => hl0 k)] at hx9
      have d4 : wr.cell? ⟨d, 4, none⟩ = some (.bool s.off) := hx9.blk.cell 4
      have d5 : wr.cell? ⟨d, 5, none⟩ = some (.bool s.fused) := hx9.blk.cell 5
      have f4 := hx9.blk.free 4
      have f5 := hx9.blk.free 5
      have hfin : Q (.returned (.tuple #[])) ((wr.setCell ⟨d, 4, none⟩ (.bool false)).setCell ⟨d, 5, none⟩ (.bool false)) := by
        rw [EQ.out]
        have hone : OneD wr ((wr.setCell ⟨d, 4, none⟩ (.bool false)).setCell ⟨d, 5, none⟩ (.bool false)) d := ((OneD.refl _ _).set _ _).set _ _
        have hx10 := hone.cellsX hx9 (s1 := crashS s ps) ((hx9.blk.set 4 (.bool false)).set 5 (.bool false)) ⟨hx9.wf.nb1, hx9.wf.nb2, hx9.wf.sz0, hx9.wf.sz1, hx9.wf.dl, hx9.wf.cl, hx9.wf.cn, hx9.wf.f0, hx9.wf.f1⟩ rfl rfl rfl rfl rfl
        exact ⟨rfl, hx10.rep HO.out HL.out ((HONR.out.set (.inl (HO.out d (.inl rfl))) _).set (.inl (HO.out d (.inl rfl))) _) (fun b hb => .inl hb)⟩
      have HF := Lib.hid hfin
      clear hfin hx9 hl0 h0
      go_wp2_with fail
      first | exact HF.out | (go_end0; exact HF.out)
    · intro j v w3 n3 hwj hLj hFj hrg3 hlt3 hg3 hs3 hen3
      have hrl : w.heap.size < wr.heap.size := HRG.out.lt
      have hrn : ∀ b, O b → b ≠ w.heap.size := fun b hb e => by have := HL.out b hb; omega
      have hk3 : ∀ b, ownD d m c B ms mc G b → w3.heap[b]? = wr.heap[b]? := fun b hb => hg3.block b (by have := HL.out b (HO.out b hb); have := HONR.out.size; omega) (fun e => hrn b (HO.out b hb) (by cases e; rfl))
      have hx3 := HXR.out.keep (w1 := w3) hk3 (Nat.le_of_eq hs3.symm)
      have hon3 : OnlyP O w w3 := HONR.out.grown hg3 (fun g hg => .inr (by cases hg; exact Nat.le_refl _))
      obtain ⟨k, g, cap, rfl, rfl, hat⟩ := sweep_at (r := w.heap.size) hx3 hLj hFj (fun k l hl => HX.out.wf.cl k l hl)
      obtain ⟨hkn, hFk, hn0, hcells⟩ := hat
      have hcapk := HCAP.out k
      have d2 : w3.cell? ⟨d, 2, none⟩ = some (.pointer (some ⟨m, 0, none⟩)) := hx3.blk.cell 2
      have d3 : w3.cell? ⟨d, 3, none⟩ = some (.pointer (some ⟨c, 0, none⟩)) := hx3.blk.cell 3
      obtain ⟨nk, enk⟩ : ∃ nk, nk = (s.ca k).length := ⟨_, rfl⟩
      obtain ⟨kp, ekp⟩ : ∃ kp, kp = keepK s ps k := ⟨_, rfl⟩
      have hkple : kp ≤ nk := by rw [ekp, enk]; exact keepP_le _ _ _
      have hpk : (P = 0 → kp = 0) ∧ (0 < P → ∃ (y : Int) (b off : Nat), A = some ⟨b, off, none⟩ ∧ (∀ W : World, OnlyP O w W → W.cell? ⟨b, off + k % P, none⟩ = some (.int .u8 y)) ∧ 0 ≤ y ∧ y < 256 ∧ y % ((nk : Int) + 1) = kp) := by
        constructor
        · intro h; rw [ekp]; unfold keepK keepP; rw [if_pos (by rw [← EP.out]; exact h)]
        · intro h
          have hy := HPB.out.at (k % ps.length)
          have hyk : ps.getD (k % ps.length) 0 % ((nk : Int) + 1) = (kp : Int) := by
            rw [ekp]; unfold keepK keepP
            rw [if_neg (by rw [← EP.out]; omega), ← enk]
            obtain ⟨yn, eyn⟩ : ∃ yn : Nat, ps.getD (k % ps.length) 0 = (yn : Int) := ⟨_, (Int.toNat_of_nonneg hy.1).symm⟩
            rw [eyn, Int.toNat_natCast]
            exact (Int.natCast_emod yn (nk + 1)).symm
          rcases HP.out.1 with ⟨h0, _⟩ | ⟨b, off, cc, e, _⟩
          · rw [EP.out, h0] at h; simp at h
          · simp only [Value.slice.injEq] at e
            refine ⟨ps.getD (k % ps.length) 0, b, off, e.1, ?_, hy.1, hy.2, hyk⟩
            intro W hW
            rcases HP.out.only hW with ⟨h0, _⟩ | ⟨b1, off1, cc1, e1, g1, g2, g3, g4⟩
            · rw [EP.out, h0] at h; simp at h
            · simp only [Value.slice.injEq] at e1
              have e2 := e.1.symm.trans e1.1
              cases e2
              rw [EP.out]
              exact g4 _ (Nat.mod_lt _ (by rw [← EP.out]; exact h))
      have hend0 : kp = 0 → ∀ w4, (∃ n1, RangeI w4 mc w.heap.size (updI F' k none) (fun i => (L i && !decide (i = (k : Int))) && !decide (i = (k : Int))) n1 ∧ n1 ≤ n3) → OnlyP (fun b => b = mc) w3 w4 → (∃ n4, SweepR O w d m c B ms mc w.heap.size G s (keepK s ps) (fun i => (L i && !decide (i = (k : Int))) && !decide (i = (k : Int))) n4 w4) ∧ w4.rangeLeft mc w.heap.size < wr.rangeLeft mc w.heap.size := by
        rintro h0 w4 ⟨n4, hrg4, hn4⟩ ho4
        have hx4 := hx3.forget k ho4 hrg4.map
        rw [stS_drop s (keepK s ps) (fun k => L k) (fun i => (L i && !decide ((i : Int) = (k : Int))) && !decide ((i : Int) = (k : Int))) k hLj (by rw [← ekp]; exact h0) (fun i => by
          by_cases e : i = k
          · simp [e]
          · have : ¬ ((i : Int) = (k : Int)) := by omega
            simp [e, this])] at hx4
        refine ⟨⟨n4, _, hrg4, hx4, hon3.then (ho4.mono (fun b hb => hb ▸ HO.out mc (.inr (.inr (.inr (.inr (.inr (.inl rfl))))))))⟩, ?_⟩
        rw [hrg4.left_eq, HRG.out.left_eq]; omega
      have hend1 : 0 < kp → ∀ xs, xs = (s.ca k).getD (kp - 1) [] → xs.length = s.sz → ∀ w4, (∃ n1, RangeI w4 mc w.heap.size (updI F' k none) (fun i => (L i && !decide (i = (k : Int))) && !decide (i = (k : Int))) n1 ∧ n1 ≤ n3) → MedR w4 m B ms s.nb s.sz (layF (durF (stS s (keepK s ps) (fun k => L k))) (k * s.sz) xs) (updI (spF (stS s (keepK s ps) (fun k => L k))) k none) → OnlyP (ThreeO ms B mc) w3 w4 → (∃ n4, SweepR O w d m c B ms mc w.heap.size G s (keepK s ps) (fun i => (L i && !decide (i = (k : Int))) && !decide (i = (k : Int))) n4 w4) ∧ w4.rangeLeft mc w.heap.size < wr.rangeLeft mc w.heap.size := by
        rintro h0 xs exs hlen w4 ⟨n4, hrg4, hn4⟩ hM4 ho4
        have hx4 := hx3.laid hlen ho4 hM4 hrg4.map
        rw [stS_laid s (keepK s ps) (fun k => L k) (fun i => (L i && !decide ((i : Int) = (k : Int))) && !decide ((i : Int) = (k : Int))) k xs hLj (by rw [← ekp]; exact h0) (by rw [exs, ekp]) (fun i => by
          by_cases e : i = k
          · simp [e]
          · have : ¬ ((i : Int) = (k : Int)) := by omega
            simp [e, this])] at hx4
        refine ⟨⟨n4, _, hrg4, hx4, hon3.then (ho4.mono (fun b hb => ?_))⟩, ?_⟩
        · rcases hb with rfl | rfl | rfl
          · exact HO.out _ (.inr (.inr (.inr (.inr (.inl rfl)))))
          · exact HO.out _ (.inr (.inr (.inr (.inl rfl))))
          · exact HO.out _ (.inr (.inr (.inr (.inr (.inr (.inl rfl))))))
        · rw [hrg4.left_eq, HRG.out.left_eq]; omega
      have HZ := Lib.hid (settle_zero w3.drew c mc w.heap.size k (.iface 50 (.pointer (some ⟨m, 0, none⟩))) (fun W => ∃ n1, RangeI W mc w.heap.size (updI F' k none) (fun i => (L i && !decide (i = (k : Int))) && !decide (i = (k : Int))) n1 ∧ n1 ≤ n3) hx3.cac.blk (del_range (w := w3.drew) (hrg3.keep rfl rfl) (by omega)))
      have hS : 0 < kp → ∃ xs, xs = (s.ca k).getD (kp - 1) [] ∧ xs.length = s.sz ∧ Calls Tryd.prog 20 #[.pointer (some ⟨c, 0, none⟩), .int .i64 k, .int .i64 kp, .iface 50 (.pointer (some ⟨m, 0, none⟩))] w3.drew (SetQ w3.drew m B ms s.nb s.sz mc (layF (durF (stS s (keepK s ps) (fun k => L k))) (k * s.sz) xs) (updI (spF (stS s (keepK s ps) (fun k => L k))) k none) (fun W => ∃ n1, RangeI W mc w.heap.size (updI F' k none) (fun i => (L i && !decide (i = (k : Int))) && !decide (i = (k : Int))) n1 ∧ n1 ≤ n3)) := by
        intro h0
        obtain ⟨hh, hc1, hrd, hlen⟩ := hcells (kp - 1) (by omega)
        refine ⟨_, rfl, hlen, ?_⟩
        exact settle_some w3.drew c mc w.heap.size k kp m B ms s.nb s.sz g (s.ca k).length cap _ F' _ _ _ _ (hx3.cac.keep rfl rfl) (hx3.med.drewN 1) hkn hnb2 HX.out.wf.sz0 HX.out.wf.sz1 hFk h0 (by omega) hcapk hc1 hrd hlen hx3.ne (hrn ms (HO.out ms (.inr (.inr (.inr (.inr (.inl rfl)))))) ).symm (hrn B (HO.out B (.inr (.inr (.inr (.inl rfl)))))).symm (by show w.heap.size < w3.heap.size; rw [hs3]; exact hrl)
          (del_range (w := w3.drew) (hrg3.keep rfl rfl) (by omega)) (fun W W' ⟨n1, hp, hq⟩ h1 h2 => ⟨n1, hp.keep h1 h2, hq⟩)
      rw [← enk] at hen3 hcapk hn0
      have HS := Lib.hid hS
      have HE0 := Lib.hid hend0
      have HE1 := Lib.hid hend1
      have HPK := Lib.hid hpk
      have HON3 := Lib.hid hon3
      clear hS hend0 hend1 hpk hon3 hx3 hcells hFk hk3 hrn hrg3 hg3 hs3 hLj hFj hwj hlt3 enk ekp
      have hcont : ∀ w4, ((∃ n4, SweepR O w d m c B ms mc w.heap.size G s (keepK s ps) (fun i => (L i && !decide (i = (k : Int))) && !decide (i = (k : Int))) n4 w4) ∧ w4.rangeLeft mc w.heap.size < wr.rangeLeft mc w.heap.size) → True := fun _ _ => trivial
      clear hcont
      by_cases hP0 : P = 0
      · have HK0 := Lib.hid (HPK.out.1 hP0)
        subst hP0
        clear HPK HS
        go_wp2_with fail
        go_still_tail 11, (by kernel_rfl)
        go_wp2_with fail
        refine HZ.out.mono ?_
        rintro e w4 ⟨rfl, hpost, ho4⟩
        obtain ⟨⟨n4, hrel⟩, hmeas⟩ := HE0.out HK0.out w4 hpost (((OnlyP.refl _ w3).drew).one ho4 (.inl rfl))
        have HREL := Lib.hid hrel
        have HMEAS := Lib.hid hmeas
        clear hrel hmeas hpost ho4 HZ HE0 HE1
        go_wp2_with fail
        go_roundw
        case rel => exact ⟨_, _, HREL.out⟩
        case measure => exact HMEAS.out
      · have hPp : 0 < P := by omega
        obtain ⟨y, b, off, rfl, hy, hy0, hy1, hyk⟩ := HPK.out.2 hPp
        have cy := hy w3 HON3.out
        have m1 : (((k : Int) % (P : Int)) : Int).toNat = k % P := by omega
        have m2 : (0 : Int) ≤ (k : Int) % (P : Int) := by omega
        have m3 : (k : Int) % (P : Int) < (P : Int) := by have := Nat.mod_lt k hPp; omega
        have m5 : k % P < P := Nat.mod_lt k hPp
        have t0 : (1 : Int) ≤ (P : Int) := by omega
        have HPP := Lib.hid hPp
        by_cases hk0 : kp = 0
        · have HK0 := Lib.hid hk0
          have m4 : y % ((nk : Int) + 1) = 0 := by rw [hyk, hk0]; rfl
          clear HPK HS hyk hy hP0
          go_wp2_with fail
          simp only [m4]
          go_still_tail 11, (by kernel_rfl)
          go_wp2_with fail
          refine HZ.out.mono ?_
          rintro e w4 ⟨rfl, hpost, ho4⟩
          obtain ⟨⟨n4, hrel⟩, hmeas⟩ := HE0.out HK0.out w4 hpost (((OnlyP.refl _ w3).drew).one ho4 (.inl rfl))
          have HREL := Lib.hid hrel
          have HMEAS := Lib.hid hmeas
          clear hrel hmeas hpost ho4 HZ HE0 HE1
          go_wp2_with fail
          go_roundw
          case rel => exact ⟨_, _, HREL.out⟩
          case measure => exact HMEAS.out
        · have hk1 : 0 < kp := by omega
          obtain ⟨xs, exs, hlen, hset⟩ := HS.out hk1
          have HE := Lib.hid (fun w4 hpost hM ho => HE1.out hk1 xs exs hlen w4 hpost hM ho)
          have HSET := Lib.hid hset
          have m4 : y % ((nk : Int) + 1) = (kp : Int) := hyk
          clear HPK HS HE1 HZ HE0 hyk hy hP0 hset exs hlen
          go_wp2_with fail
          simp only [m4]
          go_still_tail 11, (by kernel_rfl)
          go_wp2_with fail
          refine HSET.out.mono ?_
          rintro e w4 ⟨rfl, hpost, hM, ho4⟩
          obtain ⟨⟨n4, hrel⟩, hmeas⟩ := HE.out w4 hpost hM (((OnlyP.refl _ w3).drew).then ho4)
          have HREL := Lib.hid hrel
          have HMEAS := Lib.hid hmeas
          clear hrel hmeas hpost ho4 HSET HE hM
          go_wp2_with fail
          go_roundw
          case rel => exact ⟨_, _, HREL.out⟩
          case measure => exact HMEAS.out
end Go.Proofs.YtgehbfnfhjpjbaaDoor
