/- The reference's Spoil, Fuse, On, Geometry. -/
import Derived.Test.YtigfcoibbmndpaaGreatRdF
import Derived.Outline
namespace Go.Proofs.YtigfcoibbmndpaaGreat
open Go.RowKit
open Go.ChangeMaps
set_option linter.unusedVariables false
set_option linter.unusedSimpArgs false
def RNumQ (P : Nat → Prop) (w : World) (r : Nat) (s : DSt) (e0 j : Int) (n : Nat) (e : Ending) (w' : World) : Prop := e = .returned (.int .i64 e0) ∧ RStep P w w' r s (trB e0 j) n
theorem fuseS_wf' {s : DSt} (h : DWf s) (n : Int) (hn : n < 9223372036854775808) : DWf (fuseS s n) :=
  ⟨h.nb1, h.nb2, h.sz0, h.sz1, h.dl, h.cl, h.cn, by show 0 ≤ max n 0; omega, by show max n 0 < _; omega⟩
theorem RRepX.spoil {w : World} {r Bm Bs cm cs : Nat} {vc : Value} {G : Nat → Prop} {s : DSt} {C : List (Nat × List Int)} {wh : Int} (h : RRepX w r Bm Bs cm cs vc G s C wh) (k : Nat) (b : Bool) (s1 : DSt) (hw : DWf s1) (h1 : s1.nb = s.nb) (h2 : s1.sz = s.sz) (h3 : s1.dur = s.dur) (h4 : ∀ i, s1.sp i = if i = k then b else s.sp i) (h5 : s1.ca = s.ca) (h6 : s1.off = s.off) (h7 : s1.fused = s.fused) (h8 : s1.fuse = s.fuse) (h9 : s1.c0 = s.c0 ∧ s1.c1 = s.c1 ∧ s1.c2 = s.c2 ∧ s1.c3 = s.c3) :
    RRepX (w.setCell ⟨Bs, k, none⟩ (.bool b)) r Bm Bs cm cs vc G s1 C wh := by
  obtain ⟨cur, g1, g2, g3⟩ := h.spo
  have hfar : ∀ b', b' ≠ Bs → (w.setCell ⟨Bs, k, none⟩ (.bool b)).heap[b']? = w.heap[b']? := fun b' hb => Below.heap_setCell w ⟨Bs, k, none⟩ _ b' hb
  have hG : ∀ b', G b' → (w.setCell ⟨Bs, k, none⟩ (.bool b)).heap[b']? = w.heap[b']? := fun b' hb => hfar b' (h.apart b' hb).2.2.2
  refine ⟨hw, ?_, ?_, ?_, ?_, fun k => by rw [h5]; exact h.rel k, fun x hx => by rw [h1]; exact h.inr x hx, h.vco, fun b' hb => ?_, h.ne⟩
  · have e : rArr s1 (.slice (some ⟨Bm, 0, none⟩) s1.nb cm) (.slice (some ⟨Bs, 0, none⟩) s1.nb cs) vc wh = rArr s (.slice (some ⟨Bm, 0, none⟩) s.nb cm) (.slice (some ⟨Bs, 0, none⟩) s.nb cs) vc wh := by unfold rArr; rw [h1, h2, h6, h7, h8, h9.1, h9.2.1, h9.2.2.1, h9.2.2.2]
    rw [e]
    exact (hfar r (h.blk.ne_blk g1 (by decide))).trans h.blk
  · obtain ⟨mcur, m1, m2, m3⟩ := h.med
    rw [h1, h2, h3]
    exact ⟨mcur, (hfar Bm h.ne).trans m1, m2, fun k hk => let ⟨v, a, b⟩ := m3 k hk; ⟨v, a, b.keep hG (fun _ h => h)⟩⟩
  · refine ⟨_, g1.set k (.bool b), by rw [h1]; exact g2, fun i hi => ?_⟩
    rw [h1] at hi
    have hci := g3 i hi
    rw [Array.getElem?_setIfInBounds]
    by_cases e : k = i
    · subst e
      have hsz : k < cur.size := (Array.getElem?_eq_some_iff.1 hci).1
      rw [if_pos rfl, if_pos hsz, h4, if_pos rfl]
    · rw [if_neg e, hci, h4, if_neg (fun e2 => e e2.symm)]
  · obtain ⟨hs', c1, c2, c3⟩ := h.cac
    rw [h2]
    exact ⟨hs', c1, own_keep2 c2 (fun g hg => hG g (h.vco g hg)), fun i hi => let ⟨a, b⟩ := c3 i hi; ⟨a, b.keep (hG _ a)⟩⟩
  · rw [size_setCell]; exact h.apart b' hb
set_option maxHeartbeats 2000000 in
set_option maxRecDepth 100000 in
theorem rspoil_ok (P : Nat → Prop) (w : World) (r : Nat) (s : DSt) (wh j : Int) (n : Nat) (h : RRep P w r s wh n) :
    Calls Tryz.prog 61 #[.pointer (some ⟨r, 0, none⟩), .int .i64 j] w (RNumQ P w r (spoilS s j) (spoilE s j) j n) := by
  obtain ⟨Bm, Bs, cm, cs, vc, G, C, hx, hP, hl, hn⟩ := h
  obtain ⟨Q, eQ⟩ : ∃ Q, Q = RNumQ P w r (spoilS s j) (spoilE s j) j n := ⟨_, rfl⟩
  rw [← eQ]
  have EQ := Lib.hid eQ
  have HX := Lib.hid hx
  have HP := Lib.hid hP
  have HL := Lib.hid hl
  have HN := Lib.hid hn
  have c3 : w.cell? ⟨r, 3, none⟩ = some (.slice (some ⟨Bs, 0, none⟩) s.nb cs) := hx.blk.cell 3
  by_cases hj : s.inr j
  · obtain ⟨k, rfl⟩ : ∃ k : Nat, j = k := ⟨j.toNat, by have := hj.1; omega⟩
    have hk : k < s.nb := by have := hj.2; omega
    have HT := Lib.hid (there_yes w r s _ _ _ wh k hx.blk hj)
    obtain ⟨cur, g1, g2, g3⟩ := hx.spo
    have d3 : w.cell? ⟨Bs, k, none⟩ = some (.bool (s.sp k)) := (g1.cell k).trans (g3 k hk)
    have f3 := g1.free k
    have hS : spoilS s k = { s with sp := setS s.sp k } := by unfold spoilS; rw [if_pos hj, show ((k : Int)).toNat = k by omega]
    have hE : spoilE s k = 0 := by unfold spoilE; rw [if_pos hj]
    rw [hS, hE] at EQ
    have hwf := hx.wf
    have hx2 := hx.spoil k true { s with sp := setS s.sp k } ⟨hwf.nb1, hwf.nb2, hwf.sz0, hwf.sz1, hwf.dl, hwf.cl, hwf.cn, hwf.f0, hwf.f1⟩ rfl rfl rfl (fun i => rfl) rfl rfl rfl rfl ⟨rfl, rfl, rfl, rfl⟩
    have hfi := fine_ok _ r _ _ _ _ wh hx2.blk
    have HX2 := Lib.hid hx2
    have HFI := Lib.hid hfi
    clear hx hP hl hn hj eQ g1 g2 g3 hS hE hx2 hfi hwf
    go_enter Tryz.func61, Tryz.ntmps61
    go_wp2_with fail
    refine HT.out.mono ?_
    rintro e w' ⟨rfl, rfl⟩
    go_wp2_with fail
    refine HFI.out.mono ?_
    rintro e w3 ⟨rfl, ho, hb3⟩
    have hF : Q (.returned (.int .i64 0)) w3 := by
      rw [EQ.out]
      have hBs : P Bs := HP.out Bs (.inr (.inr (.inl rfl)))
      have hO1 : OnlyP P w (w.setCell ⟨Bs, k, none⟩ (.bool true)) := OnlyP.set (p := ⟨Bs, k, none⟩) (OnlyP.refl P w) (.inl hBs) _
      obtain ⟨t1, t2⟩ := HX2.out.turn HP.out (fun b hb => by rw [size_setCell]; exact HL.out b hb) HN.out ho hb3 HX2.out.wf rfl rfl rfl rfl rfl
      exact ⟨rfl, hO1.then t1, P, t2, fun b hb => .inl hb⟩
    have HF := Lib.hid hF
    clear hF ho hb3 HFI HT
    go_wp2_with fail
    first | exact HF.out | (go_ret; exact HF.out)
  · have hS : spoilS s j = s := by unfold spoilS; rw [if_neg hj]
    have hE : spoilE s j = 2 := by unfold spoilE; rw [if_neg hj]
    rw [hS, hE] at EQ
    have HT := Lib.hid (there_no w r s _ _ _ wh j hx.blk hj)
    have HNO := Lib.hid (rrefuse_ok w r s _ _ _ wh 2 j hx.blk)
    clear hx hP hl hn hj eQ hS hE
    go_enter Tryz.func61, Tryz.ntmps61
    go_wp2_with fail
    refine HT.out.mono ?_
    rintro e w' ⟨rfl, rfl⟩
    go_wp2_with fail
    refine HNO.out.mono ?_
    rintro e w3 ⟨rfl, ho, hb3⟩
    have hF : Q (.returned (.int .i64 2)) w3 := by
      rw [EQ.out]
      obtain ⟨t1, t2⟩ := HX.out.turn HP.out HL.out HN.out ho hb3 HX.out.wf rfl rfl rfl rfl rfl
      exact ⟨rfl, t1, P, t2, fun b hb => .inl hb⟩
    have HF := Lib.hid hF
    clear hF ho hb3 HNO HT
    go_wp2_with fail
    first | exact HF.out | (go_ret; exact HF.out)
set_option maxHeartbeats 2000000 in
set_option maxRecDepth 100000 in
theorem rfuse_ok (P : Nat → Prop) (w : World) (r : Nat) (s : DSt) (wh m : Int) (n : Nat) (h : RRep P w r s wh n) (hm : m < 9223372036854775808) :
    Calls Tryz.prog 63 #[.pointer (some ⟨r, 0, none⟩), .int .i64 m] w fun e w' => e = .returned (.tuple #[]) ∧ RStep P w w' r (fuseS s m) wh n := by
  obtain ⟨Bm, Bs, cm, cs, vc, G, C, hx, hP, hl, hn⟩ := h
  obtain ⟨Q, eQ⟩ : ∃ Q : Ending → World → Prop, Q = fun e w' => e = .returned (.tuple #[]) ∧ RStep P w w' r (fuseS s m) wh n := ⟨_, rfl⟩
  rw [← eQ]
  have c6 : w.cell? ⟨r, 6, none⟩ = some (.int .i64 (if s.fused = true then s.fuse else -1)) := hx.blk.cell 6
  have f6 := hx.blk.free 6
  obtain ⟨y, ey⟩ : ∃ y : Int, y = if s.fused = true then s.fuse else -1 := ⟨_, rfl⟩
  rw [← ey] at c6
  by_cases h0 : m < 0
  · have hF : Q (.returned (.tuple #[])) ((w.setCell ⟨r, 6, none⟩ (.int .i64 m)).setCell ⟨r, 6, none⟩ (.int .i64 (-1))) := by
      rw [eQ]
      have ho : OneD w ((w.setCell ⟨r, 6, none⟩ (.int .i64 m)).setCell ⟨r, 6, none⟩ (.int .i64 (-1))) r := ((OneD.refl _ _).set _ _).set _ _
      have hb := (hx.blk.set 6 (.int .i64 m)).set 6 (.int .i64 (-1))
      have e1 : decide (0 ≤ m) = false := decide_eq_false (by omega)
      obtain ⟨t1, t2⟩ := hx.turn hP hl hn ho (s1 := fuseS s m) (wh1 := wh) (by
        have e : rArr (fuseS s m) (.slice (some ⟨Bm, 0, none⟩) (fuseS s m).nb cm) (.slice (some ⟨Bs, 0, none⟩) (fuseS s m).nb cs) vc wh = ((rArr s (.slice (some ⟨Bm, 0, none⟩) s.nb cm) (.slice (some ⟨Bs, 0, none⟩) s.nb cs) vc wh).setIfInBounds 6 (.int .i64 m)).setIfInBounds 6 (.int .i64 (-1)) := by
          unfold rArr fuseS; simp [e1]
        rw [e]; exact hb) (fuseS_wf' hx.wf m hm) rfl rfl rfl rfl rfl
      exact ⟨rfl, t1, P, t2, fun b hb => .inl hb⟩
    have HF := Lib.hid hF
    clear hx hP hl hn hF eQ ey hm
    go_enter Tryz.func63, Tryz.ntmps63
    go_wp2_with fail
    first | exact HF.out | (go_end0; exact HF.out)
  · have hF : Q (.returned (.tuple #[])) (w.setCell ⟨r, 6, none⟩ (.int .i64 m)) := by
      rw [eQ]
      have ho : OneD w (w.setCell ⟨r, 6, none⟩ (.int .i64 m)) r := (OneD.refl _ _).set _ _
      have hb := hx.blk.set 6 (.int .i64 m)
      have e1 : decide (0 ≤ m) = true := decide_eq_true (by omega)
      have e2 : max m 0 = m := by omega
      obtain ⟨t1, t2⟩ := hx.turn hP hl hn ho (s1 := fuseS s m) (wh1 := wh) (by
        have e : rArr (fuseS s m) (.slice (some ⟨Bm, 0, none⟩) (fuseS s m).nb cm) (.slice (some ⟨Bs, 0, none⟩) (fuseS s m).nb cs) vc wh = (rArr s (.slice (some ⟨Bm, 0, none⟩) s.nb cm) (.slice (some ⟨Bs, 0, none⟩) s.nb cs) vc wh).setIfInBounds 6 (.int .i64 m) := by
          unfold rArr fuseS; simp [e1, e2]
        rw [e]; exact hb) (fuseS_wf' hx.wf m hm) rfl rfl rfl rfl rfl
      exact ⟨rfl, t1, P, t2, fun b hb => .inl hb⟩
    have HF := Lib.hid hF
    clear hx hP hl hn hF eQ ey hm
    go_enter Tryz.func63, Tryz.ntmps63
    go_wp2_with fail
    first | exact HF.out | (go_end0; exact HF.out)
set_option maxHeartbeats 1000000 in
set_option maxRecDepth 100000 in
theorem ron_ok (P : Nat → Prop) (w : World) (r : Nat) (s : DSt) (wh : Int) (n : Nat) (h : RRep P w r s wh n) :
    Calls Tryz.prog 47 #[.pointer (some ⟨r, 0, none⟩)] w fun e w' => e = .returned (.bool (!s.off)) ∧ w = w' := by
  obtain ⟨Bm, Bs, cm, cs, vc, G, C, hx, _⟩ := h
  have c5 : w.cell? ⟨r, 5, none⟩ = some (.bool (!s.off)) := hx.blk.cell 5
  obtain ⟨b, eb⟩ : ∃ b, b = !s.off := ⟨_, rfl⟩
  rw [← eb] at c5 ⊢
  clear hx eb
  go_enter Tryz.func47, Tryz.ntmps47
  go_wp2_with fail
  go_ret
  exact ⟨rfl, rfl⟩
set_option maxHeartbeats 1000000 in
set_option maxRecDepth 100000 in
theorem rgeometry_ok (P : Nat → Prop) (w : World) (r : Nat) (s : DSt) (wh : Int) (n : Nat) (h : RRep P w r s wh n) :
    Calls Tryz.prog 51 #[.pointer (some ⟨r, 0, none⟩)] w fun e w' => e = .returned (.tuple #[.int .i64 s.nb, .int .i64 s.sz]) ∧ ∃ m, w' = w.drewN m := by
  obtain ⟨Bm, Bs, cm, cs, vc, G, C, hx, _⟩ := h
  have c0 : w.cell? ⟨r, 0, none⟩ = some (.int .i64 s.nb) := hx.blk.cell 0
  have c1 : w.cell? ⟨r, 1, none⟩ = some (.int .i64 s.sz) := hx.blk.cell 1
  clear hx
  go_enter Tryz.func51, Tryz.ntmps51
  go_wp2_with fail
  (try (go_quiet (fail); go_wp2_with fail))
  go_ret2
  exact ⟨rfl, by first | exact ⟨0, rfl⟩ | exact ⟨_, rfl⟩⟩
end Go.Proofs.YtigfcoibbmndpaaGreat
