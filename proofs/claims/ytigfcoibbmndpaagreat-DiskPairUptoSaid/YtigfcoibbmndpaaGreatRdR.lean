/- The reference's Flush. -/
import Derived.Test.YtigfcoibbmndpaaGreatRdQ
import Derived.Outline
namespace Go.Proofs.YtigfcoibbmndpaaGreat
open Go.RowKit
open Go.ChangeMaps
set_option linter.unusedVariables false
set_option linter.unusedSimpArgs false
/-- The item at place i, in the world. -/
theorem RRepX.item {w : World} {r Bm Bs cm cs i : Nat} {vc : Value} {G : Nat → Prop} {s : DSt} {C : List (Nat × List Int)} {wh : Int} (h : RRepX w r Bm Bs cm cs vc G s C wh) (hi : i < C.length) :
    ∃ g cap b, vc = .slice (some ⟨g, 0, none⟩) C.length cap ∧ w.cell? ⟨g, i * 2, none⟩ = some (.int .i64 (C.getD i (0, [])).1) ∧ w.cell? ⟨g, i * 2 + 1, none⟩ = some (.slice (some ⟨b, 0, none⟩) s.sz s.sz) ∧ G b ∧ RowA .u8 5 w b s.sz (fun t => (C.getD i (0, [])).2.getD t 0) ∧ (C.getD i (0, [])).1 < s.nb ∧ (C.getD i (0, [])).2.length = s.sz := by
  obtain ⟨hs, hl, hown, hel⟩ := h.cac
  obtain ⟨g, cap, ev, hg, hcells⟩ := own2_cells hown (by omega)
  obtain ⟨e1, e2⟩ := cellsC_at C hs s.sz i hl hi
  obtain ⟨g1, g2⟩ := hel i hi
  have hm : C.getD i (0, []) ∈ C := by
    rw [List.getD_eq_getElem?_getD, List.getElem?_eq_getElem hi]; exact List.getElem_mem _
  refine ⟨g, cap, hs.getD i 0, ev, hcells _ _ e1, hcells _ _ e2, g1, g2, h.inr _ hm, ?_⟩
  refine h.wf.cl (C.getD i (0, [])).1 _ ?_
  rw [h.rel]
  unfold partC
  exact List.mem_map.2 ⟨_, List.mem_filter.2 ⟨hm, by simp⟩, rfl⟩
/-- One item laid down: Medium and Spoilt. -/
theorem RRepX.layIt {w : World} {r Bm Bs cm cs i b : Nat} {vc : Value} {G : Nat → Prop} {s : DSt} {keep : Nat → Nat} {C : List (Nat × List Int)} {wh : Int} (h : RRepX w r Bm Bs cm cs vc G (midS s C keep i) C wh) (hi : i < C.length) (hrel : ∀ k, s.ca k = partC C k) (hk : seenN C i (C.getD i (0, [])).1 + 1 ≤ keep (C.getD i (0, [])).1)
    (hG : G b) (hrow : RowA .u8 5 w b s.sz (fun t => (C.getD i (0, [])).2.getD t 0)) (hk1 : (C.getD i (0, [])).1 < s.nb) (hk2 : (C.getD i (0, [])).2.length = s.sz) :
    RRepX ((w.setCell ⟨Bm, (C.getD i (0, [])).1, none⟩ (.slice (some ⟨b, 0, none⟩) s.sz s.sz)).setCell ⟨Bs, (C.getD i (0, [])).1, none⟩ (.bool false)) r Bm Bs cm cs vc G (midS s C keep (i + 1)) C wh := by
  have h1 := h.laidG (k := (C.getD i (0, [])).1) (xs := (C.getD i (0, [])).2) hk1 hk2 hG hrow
  rw [midS_lay s C keep i hi hrel hk]
  have hwf := h1.wf
  exact h1.spoil (C.getD i (0, [])).1 false _ ⟨hwf.nb1, hwf.nb2, hwf.sz0, hwf.sz1, hwf.dl, hwf.cl, hwf.cn, hwf.f0, hwf.f1⟩ rfl rfl rfl (fun i => rfl) rfl rfl rfl rfl ⟨rfl, rfl, rfl, rfl⟩
def FlushRQ (P : Nat → Prop) (w : World) (r : Nat) (s : DSt) (n : Nat) (b : Bool) (e : Ending) (w' : World) : Prop := e = .returned (.int .i64 (if b = true then 0 else 22)) ∧ RStep P w w' r s (-1) n
set_option maxHeartbeats 4000000 in
set_option maxRecDepth 100000 in
theorem rflush_ok (P : Nat → Prop) (w : World) (r : Nat) (s : DSt) (wh : Int) (n : Nat) (h : RRep P w r s wh n) (hn32 : n * 32 ≤ 140737488355328) :
    Calls Tryz.prog 59 #[.pointer (some ⟨r, 0, none⟩)] w (FlushRQ P w r (flushS s) n (stepB s)) := by
  obtain ⟨Bm, Bs, cm, cs, vc, G, C, hx, hP, hl, hn⟩ := h
  obtain ⟨b0, eb0⟩ : ∃ b, b = stepB s := ⟨_, rfl⟩
  obtain ⟨Q, eQ⟩ : ∃ Q, Q = FlushRQ P w r (flushS s) n b0 := ⟨_, rfl⟩
  rw [← eb0]
  rw [← eQ]
  have EQ := Lib.hid eQ
  have f11 := hx.blk.free 11
  have c11 : w.cell? ⟨r, 11, none⟩ = some (.int .i64 wh) := hx.blk.cell 11
  have hb1 : Blk (w.setCell ⟨r, 11, none⟩ (.int .i64 (-1))) r 74 (rArr s (.slice (some ⟨Bm, 0, none⟩) s.nb cm) (.slice (some ⟨Bs, 0, none⟩) s.nb cs) vc (-1)) := hx.blk.set 11 (.int .i64 (-1))
  have ho1 : OneD w (w.setCell ⟨r, 11, none⟩ (.int .i64 (-1))) r := (OneD.refl _ _).set _ _
  have hx1 := hx.cells hb1 (fun b hb => ho1.2.2.2.2 b hb) ho1.2.2.2.1 hx.wf rfl rfl rfl rfl rfl
  have hst := rstep_ok _ r s _ _ vc (-1) hx1.blk hx.wf.f0 hx.wf.f1
  rw [← eb0] at hst
  have hon1 : OnlyP P w (w.setCell ⟨r, 11, none⟩ (.int .i64 (-1))) := ho1.only (hP r (.inl rfl))
  have hs := stepS_same s
  have hwf1 := stepS_dwf hx.wf
  have hfl : (b0 = false → flushS s = stepS s) ∧ (b0 = true → flushS s = flushC (stepS s)) := by
    unfold flushS; rw [← eb0]
    exact ⟨fun h => by rw [h]; rfl, fun h => by rw [h]; rfl⟩
  obtain ⟨s1, es1⟩ : ∃ s1, s1 = stepS s := ⟨_, rfl⟩
  rw [← es1] at hst hs hwf1 hfl
  have HX1 := Lib.hid hx1
  have HP := Lib.hid hP
  have HL := Lib.hid (show ∀ b, P b → b < (w.setCell ⟨r, 11, none⟩ (.int .i64 (-1))).heap.size from fun b hb => by rw [size_setCell]; exact hl b hb)
  have HN := Lib.hid hn
  have HST := Lib.hid hst
  have HS := Lib.hid hs
  have HW1 := Lib.hid hwf1
  have HFL := Lib.hid hfl
  have HON1 := Lib.hid hon1
  clear hx hP hl hn eQ eb0 hb1 ho1 hx1 hst hs hwf1 hfl hon1 es1
  go_enter Tryz.func59, Tryz.ntmps59
  go_wp2_with fail
  refine HST.out.mono ?_
  rintro e w2 ⟨rfl, ho2, hb2⟩
  have hx2 : RRepX w2 r Bm Bs cm cs vc G s1 C (-1) := HX1.out.cells (by rw [HS.out.1]; exact hb2) (fun b hb => ho2.2.2.2.2 b hb) ho2.2.2.2.1 HW1.out HS.out.1 HS.out.2.1 HS.out.2.2.1 HS.out.2.2.2.1 HS.out.2.2.2.2
  have hon2 : OnlyP P w w2 := HON1.out.then (ho2.only (HP.out r (.inl rfl)))
  have hl2 : ∀ b, P b → b < w2.heap.size := fun b hb => by rw [ho2.2.2.2.1]; exact HL.out b hb
  have HX2 := Lib.hid hx2
  have HON2 := Lib.hid hon2
  have HL2 := Lib.hid hl2
  clear hx2 hon2 hl2 ho2 hb2 HST
  cases b0
  · have hF : Q (.returned (.int .i64 22)) w2 := by
      rw [EQ.out, HFL.out.1 rfl]
      exact ⟨rfl, HON2.out, P, ⟨Bm, Bs, cm, cs, vc, G, C, HX2.out, HP.out, HL2.out, HN.out⟩, fun b hb => .inl hb⟩
    have HF := Lib.hid hF
    clear hF
    go_wp2_with fail
    first | exact HF.out | (go_ret; exact HF.out)
  · obtain ⟨L, eL⟩ : ∃ L, L = C.length := ⟨_, rfl⟩
    have EL := Lib.hid eL
    have hL : L ≤ 140737488355328 := by have := HN.out; omega
    obtain ⟨Ac, cc, hvc⟩ : ∃ Ac cc, vc = .slice Ac L cc := by
      obtain ⟨hs', _, ho, _⟩ := HX2.out.cac
      rw [eL]; exact own2_len ho
    have HVC := Lib.hid hvc
    clear eL hvc
    go_wp2_with fail
    go_loopw [4] (fun b wr => ∃ i : Nat, i ≤ L ∧ b = .int .i64 i ∧ RRepX wr r Bm Bs cm cs vc G (midS s1 C (lenK s1) i) C (-1) ∧ OnlyP P w2 wr ∧ wr.heap.size = w2.heap.size) (fun b _ => L - (intOf b).toNat)
    case atStart => exact ⟨0, Nat.zero_le _, rfl, by rw [midS_zero]; exact HX2.out, OnlyP.refl _ _, rfl⟩
    case round =>
      obtain ⟨i, hi, rfl, hxi, hoi, hzi⟩ := hrel
      have c4 : wr.cell? ⟨r, 4, none⟩ = some (.slice Ac L cc) := by rw [← HVC.out]; exact hxi.blk.cell 4
      have HXI := Lib.hid hxi
      have HOI := Lib.hid hoi
      have HZI := Lib.hid hzi
      by_cases hlt : i < L
      · obtain ⟨g, cap, b, ev, k1, k2, hG, hrow, hkk, hln⟩ := hxi.item (by rw [← EL.out]; exact hlt)
        rw [HVC.out, ← EL.out] at ev
        simp only [Value.slice.injEq] at ev
        obtain ⟨rfl, _, rfl⟩ := ev
        have c2 : wr.cell? ⟨r, 2, none⟩ = some (.slice (some ⟨Bm, 0, none⟩) s1.nb cm) := hxi.blk.cell 2
        obtain ⟨mcur, m1, m2, m3⟩ := hxi.med
        have fm := m1.free (C.getD i (0, [])).1
        obtain ⟨u, mu, _⟩ := m3 _ hkk
        have km : wr.cell? ⟨Bm, (C.getD i (0, [])).1, none⟩ = some u := (m1.cell _).trans mu
        have hkeep : seenN C i (C.getD i (0, [])).1 + 1 ≤ lenK s1 (C.getD i (0, [])).1 := by
          have h1 := seenN_le C (i + 1) (C.getD i (0, [])).1
          rw [seenN_succ C i _ (by rw [← EL.out]; exact hlt), if_pos rfl] at h1
          unfold lenK
          rw [HX2.out.rel]; exact h1
        obtain ⟨wd, ewd⟩ : ∃ wd, wd = wr.drew := ⟨_, rfl⟩
        have hxd : RRepX wd r Bm Bs cm cs vc G (midS s1 C (lenK s1) i) C (-1) := by rw [ewd]; exact hxi.keep (fun _ _ => rfl) (Nat.le_refl _)
        have hrowd : RowA .u8 5 wd b s1.sz (fun t => (C.getD i (0, [])).2.getD t 0) := by rw [ewd]; exact hrow
        have hx5 := hxd.layIt (by rw [← EL.out]; exact hlt) HX2.out.rel hkeep hG hrowd hkk hln
        have hx4 := hxd.laidG (k := (C.getD i (0, [])).1) hkk hln hG hrowd
        obtain ⟨X, eX⟩ : ∃ X, X = (C.getD i (0, [])).1 := ⟨_, rfl⟩
        rw [← eX] at k1 hkk fm km hx5 hx4
        obtain ⟨NB, eNB⟩ : ∃ NB, NB = s1.nb := ⟨_, rfl⟩
        obtain ⟨SZ, eSZ⟩ : ∃ SZ, SZ = s1.sz := ⟨_, rfl⟩
        have hkk' : X < s1.nb := hkk
        have c3 : (wd.setCell ⟨Bm, X, none⟩ (.slice (some ⟨b, 0, none⟩) s1.sz s1.sz)).cell? ⟨r, 3, none⟩ = some (.slice (some ⟨Bs, 0, none⟩) s1.nb cs) := hx4.blk.cell 3
        obtain ⟨scur, t1, t2, t3⟩ := hx4.spo
        have fs : (wd.setCell ⟨Bm, X, none⟩ (.slice (some ⟨b, 0, none⟩) s1.sz s1.sz)).frozen? ⟨Bs, X, none⟩ = false := t1.free X
        have ks : (wd.setCell ⟨Bm, X, none⟩ (.slice (some ⟨b, 0, none⟩) s1.sz s1.sz)).cell? ⟨Bs, X, none⟩ = some (.bool _) := (t1.cell _).trans (t3 X hkk)
        have k2' : wr.cell? ⟨g, i * 2 + 1, none⟩ = some (.slice (some ⟨b, 0, none⟩) s1.sz s1.sz) := k2
        rw [← eSZ] at c3 fs k2' hx5 ks
        rw [← eNB] at c2 c3 hkk'
        have HX5 := Lib.hid hx5
        obtain ⟨w4, e4⟩ : ∃ w4, w4 = wd.setCell ⟨Bm, X, none⟩ (.slice (some ⟨b, 0, none⟩) SZ SZ) := ⟨_, rfl⟩
        have E4 := Lib.hid e4
        have EWD := Lib.hid ewd
        have C3 := Lib.hid c3
        have FS := Lib.hid fs
        have KS := Lib.hid ks
        clear hxi hoi hzi hx5 hx4 hG hrow hln m1 m2 m3 mu t1 t2 t3 eX eNB eSZ hkk hkeep k2 e4 c3 fs ks ewd hxd hrowd
        go_wp2_with fail
        go_still_tail 13, (by kernel_rfl)
        change wpList _ _ _ _ _ wr.drew
        rw [← EWD.out]
        have kmd : wd.cell? ⟨Bm, X, none⟩ = some u := by rw [EWD.out]; exact km
        have fmd : wd.frozen? ⟨Bm, X, none⟩ = false := by rw [EWD.out]; exact fm
        have HOD := Lib.hid (show OnlyP P w2 wd by rw [EWD.out]; exact HOI.out.drew)
        have HZD := Lib.hid (show wd.heap.size = w2.heap.size by rw [EWD.out]; exact HZI.out)
        go_upto_region 10 with (fail)
        rw [← E4.out]
        rw [← E4.out] at C3 FS KS HX5
        have c3 := C3.out
        have fs := FS.out
        have ks := KS.out
        have ho4 : OnlyP P w2 (w4.setCell ⟨Bs, X, none⟩ (.bool false)) := by
          rw [E4.out]
          exact (HOD.out.set (p := ⟨Bm, X, none⟩) (.inl (HP.out Bm (.inr (.inl rfl)))) _).set (p := ⟨Bs, X, none⟩) (.inl (HP.out Bs (.inr (.inr (.inl rfl))))) _
        have hz4 : (w4.setCell ⟨Bs, X, none⟩ (.bool false)).heap.size = w2.heap.size := by rw [size_setCell, E4.out, size_setCell]; exact HZD.out
        have HO4 := Lib.hid ho4
        have HZ4 := Lib.hid hz4
        clear ho4 hz4 kmd fmd c2 c4 km fm k1 k2'
        go_wp2_with fail
        go_roundw
        case rel => exact ⟨i + 1, by omega, by go_num, HX5.out, HO4.out, HZ4.out⟩
        case measure => simp [intOf] <;> omega
      · obtain rfl : L = i := by omega
        have f4 := hxi.blk.free 4
        have hxe := hxi.emptied
        obtain ⟨sm, esm⟩ : ∃ sm : DSt, sm = { midS s1 C (lenK s1) L with ca := fun _ => [] } := ⟨_, rfl⟩
        rw [← esm] at hxe
        have hsm : sm = allS s1 (lenK s1) := by rw [esm, EL.out]; exact midS_end s1 C (lenK s1) HX2.out.rel (fun k => Nat.le_refl _)
        rw [hsm] at hxe
        have e10 : (wr.setCell ⟨r, 4, none⟩ (.slice none 0 0)).cell? ⟨r, 10, none⟩ = some (.int .i64 s1.c3) := hxe.blk.cell 10
        have f10 := hxe.blk.free 10
        obtain ⟨y, ey⟩ : ∃ y, y = IntKind.i64.wrap (s1.c3 + 1) := ⟨_, rfl⟩
        have y1 : IntKind.i64.wrap (s1.c3 + 1) = y := ey.symm
        have hF : Q (.returned (.int .i64 0)) ((wr.setCell ⟨r, 4, none⟩ (.slice none 0 0)).setCell ⟨r, 10, none⟩ (.int .i64 y)) := by
          rw [EQ.out, HFL.out.2 trivial]
          have hb7 := hxe.blk.set 10 (.int .i64 y)
          have ho7 : OneD (wr.setCell ⟨r, 4, none⟩ (.slice none 0 0)) ((wr.setCell ⟨r, 4, none⟩ (.slice none 0 0)).setCell ⟨r, 10, none⟩ (.int .i64 y)) r := (OneD.refl _ _).set _ _
          have hwf := hxe.wf
          have hx7 := hxe.cells (s1 := flushC s1) (wh1 := -1) (by rw [ey] at hb7 ⊢; exact hb7) (fun b hb => ho7.2.2.2.2 b hb) ho7.2.2.2.1 ⟨hwf.nb1, hwf.nb2, hwf.sz0, hwf.sz1, hwf.dl, hwf.cl, hwf.cn, hwf.f0, hwf.f1⟩ rfl rfl rfl rfl rfl
          have hrP := HP.out r (.inl rfl)
          refine ⟨rfl, HON2.out.then ((HOI.out.set (p := ⟨r, 4, none⟩) (.inl hrP) _).set (p := ⟨r, 10, none⟩) (.inl hrP) _), P, ⟨Bm, Bs, cm, cs, _, G, [], hx7, HP.out, fun b hb => ?_, Nat.zero_le _⟩, fun b hb => .inl hb⟩
          rw [size_setCell, size_setCell, HZI.out]; exact HL2.out b hb
        have HF := Lib.hid hF
        have E10 := Lib.hid e10
        have F10 := Lib.hid f10
        clear hF hxe hsm esm e10 f10 hxi hoi hzi ey
        go_upto_region 12 with (fail)
        have e10 := E10.out
        have f10 := F10.out
        go_wp2_with fail
        first | exact HF.out | (go_ret; exact HF.out)
end Go.Proofs.YtigfcoibbmndpaaGreat
