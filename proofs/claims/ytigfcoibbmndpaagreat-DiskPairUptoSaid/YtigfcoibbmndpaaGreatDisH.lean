/- The disk's calls: Write, Through. -/
import Derived.Test.YtigfcoibbmndpaaGreatDisG
import Derived.Outline
namespace Go.Proofs.YtigfcoibbmndpaaGreat
open Go.RowKit
open Go.ChangeMaps
set_option linter.unusedVariables false
set_option linter.unusedSimpArgs false
/-- Bytes that are handed in: none of the disk's own blocks holds them. -/
def RdN (O : Nat → Prop) (w : World) (v : Value) (xs : List Int) : Prop := Rd .u8 w v xs ∧ ∀ b off n c, v = .slice (some ⟨b, off, none⟩) n c → 0 < n → ¬ O b
theorem RdN.only {O : Nat → Prop} {w w1 : World} {v : Value} {xs : List Int} (h : RdN O w v xs) (ho : OnlyP O w w1) : Rd .u8 w1 v xs := by
  rcases h.1 with h1 | ⟨b, off, c, rfl, h1, h2, h3, h4⟩
  · exact .inl h1
  · refine .inr ⟨b, off, c, rfl, h1, h2, Nat.lt_of_lt_of_le h3 ho.size, fun i hi => ?_⟩
    rw [cell_of_heap (ho.block b h3 (h.2 b off _ c rfl h1))]
    exact h4 i hi
theorem OneD.cellsX {w w1 : World} {d m c B ms mc : Nat} {F : Int → Option Value} {G : Nat → Prop} {s s1 : DSt} (ho : OneD w w1 d) (h : DRepX w d m c B ms mc F G s) (hb : Blk w1 d 70 (dArr s1 m c)) (hw : DWf s1) (h1 : s1.nb = s.nb) (h2 : s1.sz = s.sz) (h3 : s1.dur = s.dur) (h4 : s1.sp = s.sp) (h5 : s1.ca = s.ca) : DRepX w1 d m c B ms mc F G s1 :=
  h.cells w1 s1 hb ho.2.2.2.2 ho.2.2.2.1 hw h1 h2 h3 h4 h5
theorem DRepX.rep {O : Nat → Prop} {w w1 : World} {d m c B ms mc : Nat} {F : Int → Option Value} {G G' : Nat → Prop} {s : DSt} (h : DRepX w1 d m c B ms mc F G' s) (hO : ∀ b, ownD d m c B ms mc G b → O b) (hl : ∀ b, O b → b < w.heap.size) (ho : OnlyP O w w1) (hG : ∀ b, G' b → G b ∨ w.heap.size ≤ b) : DStep O w w1 d s := by
  refine ⟨ho, fun b => O b ∨ (w.heap.size ≤ b ∧ G' b), ⟨m, c, B, ms, mc, F, G', h, fun b hb => ?_, fun b hb => ?_⟩, fun b hb => hb.elim .inl (fun h => .inr h.1)⟩
  · rcases hb with e | e | e | e | e | e | hb
    · exact .inl (hO b (.inl e))
    · exact .inl (hO b (.inr (.inl e)))
    · exact .inl (hO b (.inr (.inr (.inl e))))
    · exact .inl (hO b (.inr (.inr (.inr (.inl e)))))
    · exact .inl (hO b (.inr (.inr (.inr (.inr (.inl e))))))
    · exact .inl (hO b (.inr (.inr (.inr (.inr (.inr (.inl e)))))))
    · rcases hG b hb with h1 | h1
      · exact .inl (hO b (.inr (.inr (.inr (.inr (.inr (.inr h1)))))))
      · exact .inr ⟨h1, hb⟩
  · rcases hb with hb | hb
    · exact Nat.lt_of_lt_of_le (hl b hb) ho.size
    · exact (h.apart b hb.2).1
noncomputable def writeE (s : DSt) (j : Int) (n : Nat) : Int := if wrE s j n ≠ 0 then wrE s j n else if stepB s = true then 0 else 22
def pushS (s : DSt) (k : Nat) (xs : List Int) : DSt := { s with ca := pushC s.ca k xs, c1 := IntKind.i64.wrap (s.c1 + 1) }
noncomputable def writeS (s : DSt) (j : Int) (xs : List Int) : DSt := if wrE s j xs.length ≠ 0 then s else if stepB s = true then pushS (stepS s) j.toNat xs else stepS s
def AnsQ (O : Nat → Prop) (w : World) (d : Nat) (s : DSt) (e0 j : Int) (e : Ending) (w' : World) : Prop := ∃ er, e = .returned er ∧ AnsE w.heap.size w' er e0 j ∧ DStep O w w' d s
theorem pushS_wf {s : DSt} {k : Nat} {xs : List Int} (h : DWf s) (hk : k < s.nb) (hl : xs.length = s.sz) : DWf (pushS s k xs) := by
  refine ⟨h.nb1, h.nb2, h.sz0, h.sz1, h.dl, fun i l hi => ?_, fun i hi => ?_, h.f0, h.f1⟩
  · have hi' : l ∈ pushC s.ca k xs i := hi
    unfold pushC at hi'
    split at hi'
    · rcases List.mem_append.1 hi' with hi | hi
      · exact h.cl k l hi
      · rw [List.mem_singleton.1 hi]; exact hl
    · exact h.cl i l hi'
  · show pushC s.ca k xs i = []
    have hi' : s.nb ≤ i := hi
    unfold pushC; rw [if_neg (by omega)]; exact h.cn i hi
theorem ref_ans {O : Nat → Prop} {w w1 w2 : World} {d : Nat} {s : DSt} {e0 j : Int} {e : Ending} (hq : RefQ w1 j e0 e w2) (h0 : e0 ≠ 0) (ho : OnlyP O w w1) (h : DRep O w1 d s) : AnsQ O w d s e0 j e w2 := by
  obtain ⟨b, rfl, hb, hblk, hbel⟩ := hq
  exact ⟨_, rfl, .inr ⟨b, rfl, Nat.le_trans ho.size hb, h0, hblk⟩, DStep.same (ho.trans (OnlyP.ofBelow hbel : OnlyP O w1 w2) (fun k hk => .inl hk)) (h.below hbel)⟩
set_option maxHeartbeats 2000000 in
set_option maxRecDepth 100000 in
theorem write_ok (O : Nat → Prop) (w : World) (d : Nat) (s : DSt) (j : Int) (v : Value) (xs : List Int) (h : DRep O w d s) (hr : RdN O w v xs) (hcap : ((s.ca j.toNat).length + 1) * 24 ≤ 200000000000000) :
    Calls Tryz.prog 52 #[.pointer (some ⟨d, 0, none⟩), .int .i64 j, v] w (AnsQ O w d (writeS s j xs) (writeE s j xs.length) j) := by
  have h' := h
  obtain ⟨m, c, B, ms, mc, F, G, hx, hO, hl⟩ := h
  obtain ⟨A, cp, rfl⟩ := hr.1.slice
  have hwr := writable_ok w d m c s j A xs.length cp hx.blk
  obtain ⟨r0, er0⟩ : ∃ r0, r0 = wrE s j xs.length := ⟨_, rfl⟩
  rw [← er0] at hwr
  obtain ⟨n, en⟩ : ∃ n, n = xs.length := ⟨_, rfl⟩
  obtain ⟨Q, eQ⟩ : ∃ Q, Q = AnsQ O w d (writeS s j xs) (writeE s j xs.length) j := ⟨_, rfl⟩
  rw [← eQ]
  have EQ := Lib.hid eQ
  rw [← en] at hwr ⊢
  have HWR := Lib.hid hwr
  have HX := Lib.hid hx
  have HR := Lib.hid hr
  have HD := Lib.hid h'
  have HO := Lib.hid hO
  have HL := Lib.hid hl
  have ER := Lib.hid er0
  have EN := Lib.hid en
  clear hwr hr h' hO hl er0 en eQ
  by_cases h0 : r0 = 0
  · have t0 : (r0 != 0) = false := by simp [h0]
    have hin : s.inr j ∧ xs.length = s.sz := by
      have := ER.out; rw [h0] at this
      unfold wrE at this
      by_cases a : s.inr j
      · rw [if_pos a] at this
        by_cases b : xs.length = s.sz
        · exact ⟨a, b⟩
        · rw [if_neg b] at this; cases this
      · rw [if_neg a] at this; cases this
    obtain ⟨⟨hj0, hj1⟩, hlen⟩ := hin
    obtain ⟨k, rfl⟩ : ∃ k : Nat, j = k := ⟨j.toNat, by omega⟩
    have hst := step_blk w d m c s hx.blk hx.wf
    obtain ⟨b0, eb0⟩ : ∃ b, b = stepB s := ⟨_, rfl⟩
    rw [← eb0] at hst
    have HST := Lib.hid hst
    have EB := Lib.hid eb0
    have H0 := Lib.hid h0
    have HLEN := Lib.hid hlen
    clear hst eb0 h0 hlen hx
    cases b0
    · go_enter Tryz.func52, Tryz.ntmps52
      go_wp2_with (go_at_call 78; with_reducible refine HWR.out.mono ?_; rintro e w' ⟨rfl, rfl⟩)
      refine HST.out.mono ?_
      rintro e w1 ⟨rfl, ho1, hb1⟩
      have hs := stepS_same s
      have hx1 := ho1.cellsX HX.out hb1 (stepS_wf HX.out.wf) hs.1 hs.2.1 hs.2.2.1 hs.2.2.2.1 hs.2.2.2.2
      have hd1 : DRep O w1 d (stepS s) := ⟨m, c, B, ms, mc, F, G, hx1, HO.out, fun b hb => by rw [ho1.2.2.2.1]; exact HL.out b hb⟩
      have hon : OnlyP O w w1 := ho1.only (HO.out d (.inl rfl))
      have hfin : ∀ e w2, RefQ w1 k 22 e w2 → Q e w2 := fun e w2 hq => by
        rw [EQ.out]
        have e1 : writeE s k xs.length = 22 := by unfold writeE; rw [← ER.out, H0.out, if_neg (by simp), if_neg (by rw [← EB.out]; simp)]
        have e2 : writeS s k xs = stepS s := by unfold writeS; rw [← ER.out, H0.out, if_neg (by simp), if_neg (by rw [← EB.out]; simp)]
        rw [e1, e2]
        exact ref_ans hq (by decide) hon hd1
      have HF := Lib.hid hfin
      clear hfin hs hx1 hd1 hon hb1 ho1
      go_wp2_with fail
      refine (refuse_ok _ _ _).mono ?_
      intro e w2 hq
      have hq2 := HF.out e w2 hq
      obtain ⟨b, rfl, _⟩ := hq
      have HQ2 := Lib.hid hq2
      clear hq2
      go_wp2_with fail
      first | exact HQ2.out | (go_ret; exact HQ2.out)
    · go_enter Tryz.func52, Tryz.ntmps52
      go_wp2_with (go_at_call 78; with_reducible refine HWR.out.mono ?_; rintro e w' ⟨rfl, rfl⟩)
      refine HST.out.mono ?_
      rintro e w1 ⟨rfl, ho1, hb1⟩
      have hs := stepS_same s
      have hx1 := ho1.cellsX HX.out hb1 (stepS_wf HX.out.wf) hs.1 hs.2.1 hs.2.2.1 hs.2.2.2.1 hs.2.2.2.2
      have hon : OnlyP O w w1 := ho1.only (HO.out d (.inl rfl))
      obtain ⟨s1, es1⟩ : ∃ s1, s1 = stepS s := ⟨_, rfl⟩
      rw [← es1] at hx1 hb1 hs
      have hcap1 : ((s1.ca k).length + 1) * 24 ≤ 200000000000000 := by rw [hs.2.2.2.2]; exact hcap
      obtain ⟨ov, vs, e1, e2, e3, e4⟩ := hx1.car.at k
      have hlen1 : xs.length = s1.sz := by rw [hs.2.1]; exact HLEN.out
      have hk1 : k < s1.nb := by have := hs.1; omega
      have hcl := put_cac w1 d c k A n cp (fun e w2 => ClayQ w1 c mc k F ov (s1.ca k).length vs xs e w2) ((by
        have := clay_ok w1 c mc k F (.slice A xs.length cp) xs ov (s1.ca k).length vs hx1.cac (by have := hx1.wf.nb2; omega) e1 e2 hcap1 (HR.out.only hon) (by have := hx1.wf.sz1; omega)
        rw [← EN.out] at this
        exact this.mono fun e w' hq => ⟨hq.1, hq⟩))
      have c3 : w1.cell? ⟨d, 3, none⟩ = some (.pointer (some ⟨c, 0, none⟩)) := hb1.cell 3
      have hvl : vs.length = (s1.ca k).length := by have := e2.1; simpa using this
      have HCL := Lib.hid hcl
      have HX1 := Lib.hid hx1
      have HON := Lib.hid hon
      have ES1 := Lib.hid es1
      have HS := Lib.hid hs
      have E1 := Lib.hid e1
      have E2 := Lib.hid e2
      have E3 := Lib.hid e3
      have E4 := Lib.hid e4
      have HVL := Lib.hid hvl
      have HLEN1 := Lib.hid hlen1
      clear hcl hx1 hon es1 hs e1 e2 e3 e4 hvl hb1 ho1 hcap1 hlen1
      go_wp2_with fail
      refine HCL.out.mono ?_
      intro e w2 hq
      obtain ⟨F', G', hx2, hG2, _, hon2⟩ := HX1.out.push hk1 HLEN1.out E1.out rfl E3.out HVL.out E4.out E2.out hq
      obtain rfl := hq.1
      have d8 : w2.cell? ⟨d, 8, none⟩ = some (.int .i64 s1.c1) := hx2.blk.cell 8
      have f8 := hx2.blk.free 8
      obtain ⟨y, ey⟩ : ∃ y, y = IntKind.i64.wrap (s1.c1 + 1) := ⟨_, rfl⟩
      have my : IntKind.i64.wrap (s1.c1 + 1) = y := ey.symm
      have hfin : Q (.returned .nilIface) (w2.setCell ⟨d, 8, none⟩ (.int .i64 y)) := by
        rw [EQ.out]
        have q1 : writeE s k xs.length = 0 := by unfold writeE; rw [← ER.out, H0.out, if_neg (by simp), if_pos EB.out.symm]
        have q2 : writeS s k xs = pushS s1 k xs := by unfold writeS; rw [← ER.out, H0.out, if_neg (by simp), if_pos EB.out.symm, ES1.out]; rfl
        rw [q1, q2]
        have hone : OneD w2 (w2.setCell ⟨d, 8, none⟩ (.int .i64 y)) d := (OneD.refl _ _).set _ _
        have hx3 := hone.cellsX hx2 (s1 := pushS s1 k xs) (by have := hx2.blk.set 8 (.int .i64 y); rw [ey] at this ⊢; exact this) (pushS_wf HX1.out.wf hk1 HLEN1.out) rfl rfl rfl rfl rfl
        have hon3 : OnlyP O w (w2.setCell ⟨d, 8, none⟩ (.int .i64 y)) := (HON.out.then (hon2.mono (fun b hb => HO.out b hb))).set (.inl (HO.out d (.inl rfl))) _
        refine ⟨_, rfl, .inl ⟨rfl, rfl⟩, hx3.rep HO.out HL.out hon3 (fun b hb => ?_)⟩
        rcases hG2 b hb with h1 | h1
        · exact .inl h1
        · exact .inr (Nat.le_trans HON.out.size h1)
      have HF := Lib.hid hfin
      clear hfin hx2 hG2 hon2 hq ey c3
      go_wp2_with fail
      first | exact HF.out | (go_ret; exact HF.out)
  · have t0 : (r0 != 0) = true := by simp [h0]
    have hfin : ∀ e w2, RefQ w j r0 e w2 → Q e w2 := fun e w2 hq => by
      rw [EQ.out]
      have e1 : writeE s j xs.length = r0 := by unfold writeE; rw [← ER.out, if_pos h0]
      have e2 : writeS s j xs = s := by unfold writeS; rw [← ER.out, if_pos h0]
      rw [e1, e2]
      exact ref_ans hq h0 (OnlyP.refl _ _) HD.out
    have HF := Lib.hid hfin
    clear hfin h0 hx
    go_enter Tryz.func52, Tryz.ntmps52
    go_wp2_with (go_at_call 78; with_reducible refine HWR.out.mono ?_; rintro e w' ⟨rfl, rfl⟩)
    refine (refuse_ok _ _ _).mono ?_
    intro e w2 hq
    have hq2 := HF.out e w2 hq
    obtain ⟨b, rfl, _⟩ := hq
    have HQ2 := Lib.hid hq2
    clear hq2
    go_wp2_with fail
    first | exact HQ2.out | (go_ret; exact HQ2.out)
end Go.Proofs.YtigfcoibbmndpaaGreat
