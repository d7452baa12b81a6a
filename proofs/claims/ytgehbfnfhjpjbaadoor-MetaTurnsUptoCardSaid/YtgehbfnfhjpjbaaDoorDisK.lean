/- The disk's calls: Durable, Spoil, Zero. -/
import Derived.Test.YtgehbfnfhjpjbaaDoorDisJ
import Derived.Outline
namespace Go.Proofs.YtgehbfnfhjpjbaaDoor
open Go.RowKit
open Go.ChangeMaps
set_option linter.unusedVariables false
set_option linter.unusedSimpArgs false
open Classical in
noncomputable def durE (s : DSt) (j : Int) : Int := if ¬ s.inr j then 2 else if s.sp j.toNat = true then 21 else 0
noncomputable def durX (s : DSt) (j : Int) : List Int := if durE s j ≠ 0 then [] else s.dur j.toNat
def setS (f : Nat → Bool) (k : Nat) (i : Nat) : Bool := if i = k then true else f i
open Classical in
noncomputable def spoilE (s : DSt) (j : Int) : Int := if s.inr j then 0 else 2
open Classical in
noncomputable def spoilS (s : DSt) (j : Int) : DSt := if s.inr j then { s with sp := setS s.sp j.toNat } else s
theorem spF_set (s s1 : DSt) (k : Nat) (hk : k < s.nb) (h1 : s1.nb = s.nb) (h3 : s1.sp = setS s.sp k) (j : Int) : updI (spF s) k (some (.agg #[])) j = spF s1 j := by
  unfold updI spF
  rw [h1, h3]
  unfold setS
  by_cases e : j = k
  · rw [if_pos e, if_pos ⟨by omega, by omega, by rw [if_pos (by omega)]⟩]
  · rw [if_neg e]
    by_cases h0 : 0 ≤ j
    · rw [if_neg (show ¬ j.toNat = k by omega)]
    · rw [if_neg (fun h => h0 h.1), if_neg (fun h => h0 h.1)]
set_option maxHeartbeats 2000000 in
set_option maxRecDepth 100000 in
theorem spoil_ok (O : Nat → Prop) (w : World) (d : Nat) (s : DSt) (j : Int) (h : DRep O w d s) :
    Calls Tryd.prog 10 #[.pointer (some ⟨d, 0, none⟩), .int .i64 j] w (AnsQ O w d (spoilS s j) (spoilE s j) j) := by
  have h' := h
  obtain ⟨m, c, B, ms, mc, F, G, hx, hO, hl⟩ := h
  obtain ⟨Q, eQ⟩ : ∃ Q, Q = AnsQ O w d (spoilS s j) (spoilE s j) j := ⟨_, rfl⟩
  rw [← eQ]
  have EQ := Lib.hid eQ
  have HD := Lib.hid h'
  clear eQ h'
  by_cases hj : s.inr j
  · obtain ⟨k, rfl⟩ : ∃ k : Nat, j = k := ⟨j.toNat, by have := hj.1; omega⟩
    have HEX := Lib.hid (exists_yes w d m c s k hx.blk hj)
    have hk : k < s.nb := by have := hj.2; omega
    have hnb := hx.wf.nb2
    have c2 : w.cell? ⟨d, 2, none⟩ = some (.pointer (some ⟨m, 0, none⟩)) := hx.blk.cell 2
    have m2 : w.cell? ⟨m, 2, none⟩ = some (.map (some ms)) := hx.med.blk.cell 2
    have HE := Lib.hid (show spoilE s k = 0 ∧ spoilS s k = { s with sp := setS s.sp k } by
      exact ⟨by unfold spoilE; rw [if_pos hj], by unfold spoilS; rw [if_pos hj]; rfl⟩)
    have HX := Lib.hid hx
    have HO := Lib.hid hO
    have HL := Lib.hid hl
    clear hj hx hO hl
    go_enter Tryd.func10, Tryd.ntmps10
    go_wp2_with (first
      | (go_at_call 22; with_reducible refine HEX.out.mono ?_; rintro e w' ⟨rfl, rfl⟩)
      | (at_mapUpdate; refine wpList_store_I _ rfl (.tmp 17) (.tmp 18) (.tmp 19) rfl Tryd.underlying3 Tryd.underlying56 ms (spF s) rfl HX.out.med.map k (i64_nat k (by omega)) (.agg #[]) rfl rfl ?_; intro w1 hm1 ho1))
    have hfin : Q (.returned .nilIface) w1 := by
      rw [EQ.out, HE.out.1, HE.out.2]
      have hx := HX.out
      have far : ∀ b, b ≠ ms → w1.heap[b]? = w.heap[b]? := fun b hb => ho1.far hb
      have hon : OnlyP O w w1 := (OnlyP.refl O w).one ho1 (.inl (HO.out ms (.inr (.inr (.inr (.inr (.inl rfl)))))))
      have hx1 : DRepX w1 d m c B ms mc F G { s with sp := setS s.sp k } := by
        refine ⟨⟨hx.wf.nb1, hx.wf.nb2, hx.wf.sz0, hx.wf.sz1, hx.wf.dl, hx.wf.cl, hx.wf.cn, hx.wf.f0, hx.wf.f1⟩, (far d (hx.blk.ne_map hx.med.map)).trans hx.blk, ⟨(far m (hx.med.blk.ne_map hx.med.map)).trans hx.med.blk, hx.med.row.keep (far B (hx.med.row.ne_map hx.med.map)), hm1.congr (fun i => (spF_set s { s with sp := setS s.sp k } k hk rfl rfl i).symm)⟩, hx.cac.keep (far c (hx.cac.blk.ne_map hx.med.map)) (far mc hx.ne), ?_, hx.ne, fun b hb => ?_⟩
        · have h := hx.car.keep (w1 := w1) (fun b hb => far b (hx.apart b hb).2.2.2.2.2.1)
          exact ⟨h.no, h.yes, h.inj⟩
        · rw [ho1.size]; exact hx.apart b hb
      exact ⟨_, rfl, .inl ⟨rfl, rfl⟩, hx1.rep HO.out HL.out hon (fun b hb => .inl hb)⟩
    have HF := Lib.hid hfin
    clear hfin hm1 ho1
    go_wp2_with fail
    first | exact HF.out | (go_ret; exact HF.out)
  · have HEX := Lib.hid (exists_no w d m c s j hx.blk hj)
    have HE := Lib.hid (show spoilE s j = 2 ∧ spoilS s j = s by
      exact ⟨by unfold spoilE; rw [if_neg hj], by unfold spoilS; rw [if_neg hj]⟩)
    have hfin : ∀ e w2, RefQ w j 2 e w2 → Q e w2 := fun e w2 hq => by
      rw [EQ.out, HE.out.1, HE.out.2]
      exact ref_ans hq (by decide) (OnlyP.refl _ _) HD.out
    have HF := Lib.hid hfin
    clear hfin hj hx hO hl
    go_enter Tryd.func10, Tryd.ntmps10
    go_wp2_with (go_at_call 22; with_reducible refine HEX.out.mono ?_; rintro e w' ⟨rfl, rfl⟩)
    refine (refuse_ok _ _ _).mono ?_
    intro e w2 hq
    have hq0 := hq
    obtain ⟨b, rfl, _⟩ := hq0
    have HQ2 := Lib.hid (HF.out _ _ hq)
    clear hq
    go_wp2_with fail
    first | exact HQ2.out | (go_ret; exact HQ2.out)
end Go.Proofs.YtgehbfnfhjpjbaaDoor
