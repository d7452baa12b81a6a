/- The disk's calls: Flush. -/
import Derived.Test.YtigfcoibbmndpaaGreatDisN
import Derived.Outline
namespace Go.Proofs.YtigfcoibbmndpaaGreat
open Go.RowKit
open Go.ChangeMaps
set_option linter.unusedVariables false
set_option linter.unusedSimpArgs false
def lenK (s : DSt) (k : Nat) : Nat := (s.ca k).length
def flushC (s : DSt) : DSt := { allS s (lenK s) with c3 := IntKind.i64.wrap (s.c3 + 1) }
def flushS (s : DSt) : DSt := if stepB s = true then flushC (stepS s) else stepS s
def FlushQ (O : Nat → Prop) (w : World) (d : Nat) (s : DSt) (b : Bool) (e : Ending) (w' : World) : Prop :=
  e = .returned (if b = true then .nilIface else .iface 48 (.int .i64 22)) ∧ DStep O w w' d s
/-- The law of 'delete' while the map is gone over. -/
theorem del_range {w : World} {mc r k n : Nat} {F : Int → Option Value} {L : Int → Bool} (h : RangeI w mc r F L n) (hk : k ≤ 8192) : DelLaw w mc r k (fun W => ∃ n1, RangeI W mc r (updI F k none) (fun i => L i && !decide (i = (k : Int))) n1 ∧ n1 ≤ n) :=
  fun W h1 h2 ty => by
    obtain ⟨W', n1, hrun, hr, hn, ho⟩ := (h.keep h1 h2).del Tryz.underlying3 Tryz.underlying75 (i64_nat k (by omega)) ty
    exact ⟨W', hrun, ⟨n1, hr, hn⟩, ho⟩
set_option maxHeartbeats 4000000 in
set_option maxRecDepth 100000 in
theorem flush_ok (O : Nat → Prop) (w : World) (d : Nat) (s : DSt) (h : DRep O w d s) (hcap : ∀ k, (s.ca k).length ≤ 100000000000000) :
    Calls Tryz.prog 58 #[.pointer (some ⟨d, 0, none⟩)] w (FlushQ O w d (flushS s) (stepB s)) := by
  obtain ⟨m, c, B, ms, mc, F, G, hx, hO, hl⟩ := h
  have hst := step_blk w d m c s hx.blk hx.wf
  obtain ⟨b0, eb0⟩ : ∃ b, b = stepB s := ⟨_, rfl⟩
  obtain ⟨Q, eQ⟩ : ∃ Q, Q = FlushQ O w d (flushS s) b0 := ⟨_, rfl⟩
  rw [← eb0] at hst ⊢
  rw [← eQ]
  have EQ := Lib.hid eQ
  have HST := Lib.hid hst
  have EB := Lib.hid eb0
  have HX := Lib.hid hx
  have HO := Lib.hid hO
  have HL := Lib.hid hl
  have HCAP := Lib.hid hcap
  clear hst eb0 eQ hx hO hl hcap
  cases b0
  · go_enter Tryz.func58, Tryz.ntmps58
    go_wp2_with fail
    refine HST.out.mono ?_
    rintro e w1 ⟨rfl, ho1, hb1⟩
    have hs := stepS_same s
    have hx1 := ho1.cellsX HX.out hb1 (stepS_wf HX.out.wf) hs.1 hs.2.1 hs.2.2.1 hs.2.2.2.1 hs.2.2.2.2
    have hfin : Q (.returned (.iface 48 (.int .i64 22))) w1 := by
      rw [EQ.out]
      have e2 : flushS s = stepS s := by unfold flushS; rw [if_neg (by rw [← EB.out]; simp)]
      rw [e2]
      exact ⟨rfl, hx1.rep HO.out HL.out (ho1.only (HO.out d (.inl rfl))) (fun b hb => .inl hb)⟩
    have HF := Lib.hid hfin
    clear hfin hs hx1 hb1 ho1
    go_wp2_with fail
    first | exact HF.out | (go_ret; exact HF.out)
  · go_enter Tryz.func58, Tryz.ntmps58
    go_wp2_with fail
    refine HST.out.mono ?_
    rintro e w1 ⟨rfl, ho1, hb1⟩
    have hs := stepS_same s
    have hx1 := ho1.cellsX HX.out hb1 (stepS_wf HX.out.wf) hs.1 hs.2.1 hs.2.2.1 hs.2.2.2.1 hs.2.2.2.2
    have hon : OnlyP O w w1 := ho1.only (HO.out d (.inl rfl))
    obtain ⟨s1, es1⟩ : ∃ s1, s1 = stepS s := ⟨_, rfl⟩
    rw [← es1] at hx1 hb1 hs
    have hcap1 : ∀ k, (s1.ca k).length ≤ 100000000000000 := fun k => by rw [hs.2.2.2.2]; exact HCAP.out k
    have hnb2 := hx1.wf.nb2
    have c3 : w1.cell? ⟨d, 3, none⟩ = some (.pointer (some ⟨c, 0, none⟩)) := hb1.cell 3
    have c2 : w1.cell? ⟨d, 2, none⟩ = some (.pointer (some ⟨m, 0, none⟩)) := hb1.cell 2
    have k0 : w1.cell? ⟨c, 0, none⟩ = some (.map (some mc)) := hx1.cac.blk.cell 0
    have HX1 := Lib.hid hx1
    have HON := Lib.hid hon
    have ES1 := Lib.hid es1
    have HCAP1 := Lib.hid hcap1
    have HSZ := Lib.hid ho1.2.2.2.1
    clear hx1 hon es1 hs hb1 ho1 hcap1
    go_wp2_with (at_range; refine wpList_range_I _ rfl (.tmp 15) rfl Tryz.underlying75 mc F rfl HX1.out.cac.map ?_; intro w2 n0 hrg0 hal)
    have hsw : SweepR O w d m c B ms mc w1.heap.size G s1 (lenK s1) (fun j => (F j).isSome) n0 w2 := by
      obtain ⟨o, rfl⟩ := hal
      have hbel : Below w1.heap.size w1 (w1.alloc o) := (Below.refl _ _).alloc (Nat.le_refl _) _
      refine ⟨F, hrg0, ?_, HON.out.then (OnlyP.ofBelow hbel)⟩
      rw [stS_start s1 (lenK s1) _ (fun k hk => HX1.out.car.no k (by simpa using hk)) (fun k hk => by unfold lenK; rw [hk]; rfl)]
      exact HX1.out.keep (fun b hb => hbel.block b (by rw [HSZ.out]; exact HL.out b (HO.out b hb))) hbel.size
    have HSW := Lib.hid hsw
    clear hsw hrg0 hal c2 c3 k0
    go_frame
    go_loopw [3, 4] (fun _ _ wr => ∃ L n, SweepR O w d m c B ms mc w1.heap.size G s1 (lenK s1) L n wr) (fun _ _ wr => wr.rangeLeft mc w1.heap.size)
    case atStart => exact ⟨_, _, HSW.out⟩
    case round =>
      obtain ⟨L, n, F', hrg, hxr, honr⟩ := hrel
      have HRG := Lib.hid hrg
      have HXR := Lib.hid hxr
      have HONR := Lib.hid honr
      clear hrg hxr honr HSW
      go_wp2_with (at_next; refine wpList_next_I _ rfl (.tmp 16) rfl mc w1.heap.size F' L n rfl HRG.out ?_ ?_)
      · intro h0 hl0
        have hx9 := HXR.out
        rw [stS_end s1 (lenK s1) (fun k => L k) (fun k => hl0 k)] at hx9
        have d10 : wr.cell? ⟨d, 10, none⟩ = some (.int .i64 s1.c3) := hx9.blk.cell 10
        have f10 := hx9.blk.free 10
        obtain ⟨y, ey⟩ : ∃ y, y = IntKind.i64.wrap (s1.c3 + 1) := ⟨_, rfl⟩
        have my : IntKind.i64.wrap (s1.c3 + 1) = y := ey.symm
        have hfin : Q (.returned .nilIface) (wr.setCell ⟨d, 10, none⟩ (.int .i64 y)) := by
          rw [EQ.out]
          have e2 : flushS s = flushC s1 := by unfold flushS; rw [if_pos EB.out.symm, ES1.out]
          rw [e2]
          have hone : OneD wr (wr.setCell ⟨d, 10, none⟩ (.int .i64 y)) d := (OneD.refl _ _).set _ _
          have hx10 := hone.cellsX hx9 (s1 := flushC s1) (by have := hx9.blk.set 10 (.int .i64 y); rw [ey] at this ⊢; exact this) ⟨hx9.wf.nb1, hx9.wf.nb2, hx9.wf.sz0, hx9.wf.sz1, hx9.wf.dl, hx9.wf.cl, hx9.wf.cn, hx9.wf.f0, hx9.wf.f1⟩ rfl rfl rfl rfl rfl
          exact ⟨rfl, hx10.rep HO.out HL.out (HONR.out.set (.inl (HO.out d (.inl rfl))) _) (fun b hb => .inl hb)⟩
        have HF := Lib.hid hfin
        clear hfin hx9 ey hl0 h0
        go_wp2_with fail
        first | exact HF.out | (go_ret; exact HF.out)
      · intro j v w3 n3 hwj hLj hFj hrg3 hlt3 hg3 hs3 hen3
        have hrl : w1.heap.size < wr.heap.size := HRG.out.lt
        have hrn : ∀ b, O b → b ≠ w1.heap.size := fun b hb e => by have := HL.out b hb; have := HSZ.out; omega
        have hk3 : ∀ b, ownD d m c B ms mc G b → w3.heap[b]? = wr.heap[b]? := fun b hb => hg3.block b (by have := HL.out b (HO.out b hb); have := HONR.out.size; omega) (fun e => hrn b (HO.out b hb) (by cases e; rfl))
        have hx3 := HXR.out.keep (w1 := w3) hk3 (Nat.le_of_eq hs3.symm)
        have hon3 : OnlyP O w w3 := HONR.out.grown hg3 (fun g hg => .inr (by cases hg; have := HSZ.out; omega))
        obtain ⟨k, g, cap, rfl, rfl, hat⟩ := sweep_at (r := w1.heap.size) hx3 hLj hFj (fun k l hl => HX1.out.wf.cl k l hl)
        obtain ⟨hkn, hFk, hn0, hcells⟩ := hat
        obtain ⟨hh, hc1, hrd, hlen⟩ := hcells ((s1.ca k).length - 1) (by omega)
        have hcapk := HCAP1.out k
        obtain ⟨xs, exs⟩ : ∃ xs, xs = (s1.ca k).getD ((s1.ca k).length - 1) [] := ⟨_, rfl⟩
        rw [← exs] at hrd hlen
        have hse := settle_some w3.drew c mc w1.heap.size k (s1.ca k).length m B ms s1.nb s1.sz g (s1.ca k).length cap (durF (stS s1 (lenK s1) (fun k => L k))) F' (spF (stS s1 (lenK s1) (fun k => L k))) _ xs (fun W => ∃ n1, RangeI W mc w1.heap.size (updI F' k none) (fun i => (L i && !decide (i = (k : Int))) && !decide (i = (k : Int))) n1 ∧ n1 ≤ n3)
          (hx3.cac.keep rfl rfl) (hx3.med.drewN 1) hkn hnb2 HX1.out.wf.sz0 HX1.out.wf.sz1 hFk hn0 (Nat.le_refl _) hcapk hc1 hrd hlen hx3.ne (hrn ms (HO.out ms (.inr (.inr (.inr (.inr (.inl rfl)))))) ).symm (hrn B (HO.out B (.inr (.inr (.inr (.inl rfl)))))).symm (by show w1.heap.size < w3.heap.size; rw [hs3]; exact hrl)
          (del_range (w := w3.drew) (hrg3.keep rfl rfl) (by omega)) (fun W W' ⟨n1, hp, hq⟩ h1 h2 => ⟨n1, hp.keep h1 h2, hq⟩)
        have d2 : w3.cell? ⟨d, 2, none⟩ = some (.pointer (some ⟨m, 0, none⟩)) := hx3.blk.cell 2
        have d3 : w3.cell? ⟨d, 3, none⟩ = some (.pointer (some ⟨c, 0, none⟩)) := hx3.blk.cell 3
        obtain ⟨nk, enk⟩ : ∃ nk, nk = (s1.ca k).length := ⟨_, rfl⟩
        rw [← enk] at hse hcapk hen3 hn0
        have HSE := Lib.hid hse
        have HX3 := Lib.hid hx3
        have HON3 := Lib.hid hon3
        have EXS := Lib.hid exs
        have ENK := Lib.hid enk
        have HLEN := Lib.hid hlen
        have HLJ := Lib.hid hLj
        have HLT3 := Lib.hid hlt3
        clear hse hx3 hon3 exs enk hlen hrd hc1 hcells hFk hk3 hrn hrg3 hg3 hs3 hLj hFj hwj hlt3
        go_wp2_with fail
        go_still_tail 12, (by kernel_rfl)
        go_wp2_with fail
        refine HSE.out.mono ?_
        rintro e w4 ⟨rfl, ⟨n4, hrg4, hn4⟩, hM4, ho4⟩
        have hrel2 : SweepR O w d m c B ms mc w1.heap.size G s1 (lenK s1) (fun i => (L i && !decide (i = (k : Int))) && !decide (i = (k : Int))) n4 w4 := by
          have ho4' : OnlyP (ThreeO ms B mc) w3 w4 := ⟨ho4.os, ho4.tape, ho4.output, ho4.size, ho4.block⟩
          have hx4 := HX3.out.laid HLEN.out ho4' hM4 hrg4.map
          rw [stS_laid s1 (lenK s1) (fun k => L k) (fun i => (L i && !decide ((i : Int) = (k : Int))) && !decide ((i : Int) = (k : Int))) k xs HLJ.out (by unfold lenK; rw [← ENK.out]; exact hn0) (by rw [EXS.out]; rfl) (fun i => by
            by_cases e : i = k
            · simp [e]
            · have : ((i : Int) ≠ (k : Int)) := by omega
              simp [e, this])] at hx4
          refine ⟨_, hrg4, hx4, HON3.out.then (ho4'.mono (fun b hb => ?_))⟩
          rcases hb with rfl | rfl | rfl
          · exact HO.out _ (.inr (.inr (.inr (.inr (.inl rfl)))))
          · exact HO.out _ (.inr (.inr (.inr (.inl rfl))))
          · exact HO.out _ (.inr (.inr (.inr (.inr (.inr (.inl rfl))))))
        have hmeas : w4.rangeLeft mc w1.heap.size < wr.rangeLeft mc w1.heap.size := by
          rw [hrg4.left_eq, HRG.out.left_eq]; have := HLT3.out; omega
        have HREL := Lib.hid hrel2
        have HMEAS := Lib.hid hmeas
        clear hrel2 hmeas hrg4 hM4 ho4 HSE hn4
        go_wp2_with fail
        go_roundw
        case rel => exact ⟨_, _, HREL.out⟩
        case measure => exact HMEAS.out
end Go.Proofs.YtigfcoibbmndpaaGreat
