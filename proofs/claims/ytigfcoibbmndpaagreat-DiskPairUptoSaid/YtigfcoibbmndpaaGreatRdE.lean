/- The reference's Read, Durable, Waiting, On, Counts, Geometry, Spoil, Fuse. -/
import Derived.Test.YtigfcoibbmndpaaGreatRdD
import Derived.Outline
namespace Go.Proofs.YtigfcoibbmndpaaGreat
open Go.RowKit
open Go.ChangeMaps
set_option linter.unusedVariables false
set_option linter.unusedSimpArgs false
theorem AnsP.only {O : Nat → Prop} {lo : Nat} {w w1 : World} {v : Value} {xs : List Int} (h : AnsP lo w v xs) (ho : OnlyP O w w1) (hO : ∀ b, lo ≤ b → b < w.heap.size → ¬ O b) : AnsP lo w1 v xs := by
  rcases h with h | ⟨B, e, hB, hr⟩
  · exact .inl h
  · exact .inr ⟨B, e, hB, hr.keep (ho.block B hr.lt (hO B hB hr.lt))⟩
/-- A call that answers bytes: the bytes, the number, what it leaves. -/
def RReadQ (P : Nat → Prop) (w : World) (r : Nat) (s : DSt) (xs : List Int) (e0 j : Int) (n : Nat) (e : Ending) (w' : World) : Prop :=
  ∃ v, e = .returned (.tuple #[v, .int .i64 e0]) ∧ AnsP w.heap.size w' v xs ∧ OnlyP P w w' ∧ RRep P w' r s (trB e0 j) n
theorem RRepX.turn {w w1 : World} {r Bm Bs cm cs n : Nat} {vc : Value} {G P : Nat → Prop} {s s1 : DSt} {C : List (Nat × List Int)} {wh wh1 : Int} (h : RRepX w r Bm Bs cm cs vc G s C wh) (hP : ∀ b, ownR r Bm Bs G b → P b) (hl : ∀ b, P b → b < w.heap.size) (hn : C.length ≤ n)
    (ho : OneD w w1 r) (hb : Blk w1 r 74 (rArr s1 (.slice (some ⟨Bm, 0, none⟩) s1.nb cm) (.slice (some ⟨Bs, 0, none⟩) s1.nb cs) vc wh1)) (hw : DWf s1) (h1 : s1.nb = s.nb) (h2 : s1.sz = s.sz) (h3 : s1.dur = s.dur) (h4 : s1.sp = s.sp) (h5 : s1.ca = s.ca) :
    OnlyP P w w1 ∧ RRep P w1 r s1 wh1 n :=
  ⟨ho.only (hP r (.inl rfl)), Bm, Bs, cm, cs, vc, G, C, h.cells hb (fun b hb => ho.2.2.2.2 b hb) ho.2.2.2.1 hw h1 h2 h3 h4 h5, hP, fun b hb => by rw [ho.2.2.2.1]; exact hl b hb, hn⟩
theorem OwnL.rd {G : Nat → Prop} {w : World} {sz : Nat} {v : Value} {xs : List Int} (h : OwnL G w sz v xs) (hl : xs.length = sz) : Rd .u8 w v xs := by
  obtain ⟨b, rfl, _, hr⟩ := h
  have := hr.rd xs sz (by omega) (by omega) (fun _ _ => rfl)
  rw [hl] at this; exact this
theorem CopyQ.ans {w w' : World} {xs : List Int} {e : Ending} (h : CopyQ w xs e w') : ∃ v, e = .returned v ∧ AnsP w.heap.size w' v xs ∧ Below w.heap.size w w' := by
  obtain ⟨B, rfl, h1, h2, h3⟩ := h
  exact ⟨_, rfl, .inr ⟨B, rfl, h1, h2⟩, h3⟩
set_option maxHeartbeats 2000000 in
set_option maxRecDepth 100000 in
theorem rdurable_ok (P : Nat → Prop) (w : World) (r : Nat) (s : DSt) (wh j : Int) (n : Nat) (h : RRep P w r s wh n) :
    Calls Tryz.prog 37 #[.pointer (some ⟨r, 0, none⟩), .int .i64 j] w (RReadQ P w r s (durX s j) (durE s j) j n) := by
  obtain ⟨Bm, Bs, cm, cs, vc, G, C, hx, hP, hl, hn⟩ := h
  obtain ⟨Q, eQ⟩ : ∃ Q, Q = RReadQ P w r s (durX s j) (durE s j) j n := ⟨_, rfl⟩
  rw [← eQ]
  have EQ := Lib.hid eQ
  have HX := Lib.hid hx
  have HP := Lib.hid hP
  have HL := Lib.hid hl
  have HN := Lib.hid hn
  have c2 : w.cell? ⟨r, 2, none⟩ = some (.slice (some ⟨Bm, 0, none⟩) s.nb cm) := hx.blk.cell 2
  have c3 : w.cell? ⟨r, 3, none⟩ = some (.slice (some ⟨Bs, 0, none⟩) s.nb cs) := hx.blk.cell 3
  by_cases hj : s.inr j
  · obtain ⟨k, rfl⟩ : ∃ k : Nat, j = k := ⟨j.toNat, by have := hj.1; omega⟩
    have hk : k < s.nb := by have := hj.2; omega
    have HT := Lib.hid (there_yes w r s _ _ _ wh k hx.blk hj)
    obtain ⟨cur, g1, g2, g3⟩ := hx.spo
    have d3 : w.cell? ⟨Bs, k, none⟩ = some (.bool (s.sp k)) := (g1.cell k).trans (g3 k hk)
    cases hsp : s.sp k
    · have hE : durE s k = 0 := by unfold durE; rw [if_neg (fun h => h hj), show ((k : Int)).toNat = k by omega, hsp]; rfl
      have hX : durX s k = s.dur k := by unfold durX; rw [hE, show ((k : Int)).toNat = k by omega]; rfl
      rw [hsp] at d3
      rw [hE, hX] at EQ
      obtain ⟨mcur, m1, m2, m3⟩ := hx.med
      obtain ⟨v, mv1, mv2⟩ := m3 k hk
      have d2 : w.cell? ⟨Bm, k, none⟩ = some v := (m1.cell k).trans mv1
      have hcp := rcopy_ok w v (s.dur k) (mv2.rd (hx.wf.dl k hk)) (by rw [hx.wf.dl k hk]; have := hx.wf.sz1; omega)
      obtain ⟨A, cp, rfl⟩ := (mv2.rd (hx.wf.dl k hk)).slice
      have HCP := Lib.hid hcp
      clear hx hP hl hn hj eQ g1 g2 g3 m1 m2 m3 mv1 mv2 hcp hE hX hsp
      go_enter Tryz.func37, Tryz.ntmps37
      go_wp2_with fail
      refine HT.out.mono ?_
      rintro e w' ⟨rfl, rfl⟩
      go_wp2_with fail
      refine HCP.out.mono ?_
      intro e w2 hq
      obtain ⟨u, rfl, ha, hb⟩ := hq.ans
      have hfi := fine_ok w2 r s _ _ _ wh (HX.out.blk.below hb HX.out.blk.lt)
      have HFI := Lib.hid hfi
      have HA := Lib.hid ha
      have HB := Lib.hid hb
      clear hq ha hb hfi HCP
      go_wp2_with fail
      refine HFI.out.mono ?_
      rintro e w3 ⟨rfl, ho, hb3⟩
      have hF : Q (.returned (.tuple #[u, .int .i64 0])) w3 := by
        rw [EQ.out]
        have hx2 := HX.out.keep (w1 := w2) (fun b hb => HB.out.block b (HL.out b (HP.out b hb))) HB.out.size
        obtain ⟨t1, t2⟩ := hx2.turn HP.out (fun b hb => Nat.lt_of_lt_of_le (HL.out b hb) HB.out.size) HN.out ho hb3 hx2.wf rfl rfl rfl rfl rfl
        refine ⟨u, rfl, ?_, (OnlyP.ofBelow HB.out).then t1, t2⟩
        exact HA.out.only t1 (fun b hb _ hc => by have := HL.out b hc; omega)
      have HF := Lib.hid hF
      clear hF ho hb3 HFI HT
      go_wp2_with fail
      first | exact HF.out | (go_ret2; exact HF.out)
    · have hE : durE s k = 21 := by unfold durE; rw [if_neg (fun h => h hj), show ((k : Int)).toNat = k by omega, hsp]; rfl
      have hX : durX s k = [] := by unfold durX; rw [hE]; rfl
      rw [hsp] at d3
      rw [hE, hX] at EQ
      have HNO := Lib.hid (none_ok w r s _ _ _ wh 21 k hx.blk)
      clear hx hP hl hn hj eQ g1 g2 g3 hE hX hsp
      go_enter Tryz.func37, Tryz.ntmps37
      go_wp2_with fail
      refine HT.out.mono ?_
      rintro e w' ⟨rfl, rfl⟩
      go_wp2_with fail
      refine HNO.out.mono ?_
      rintro e w3 ⟨rfl, ho, hb3⟩
      have hF : Q (.returned (.tuple #[.slice none 0 0, .int .i64 21])) w3 := by
        rw [EQ.out]
        obtain ⟨t1, t2⟩ := HX.out.turn HP.out HL.out HN.out ho hb3 HX.out.wf rfl rfl rfl rfl rfl
        exact ⟨_, rfl, .inl ⟨rfl, rfl⟩, t1, t2⟩
      have HF := Lib.hid hF
      clear hF ho hb3 HNO HT
      go_wp2_with fail
      first | exact HF.out | (go_ret2; exact HF.out)
  · have hE : durE s j = 2 := by unfold durE; rw [if_pos hj]
    have hX : durX s j = [] := by unfold durX; rw [hE]; rfl
    rw [hE, hX] at EQ
    have HT := Lib.hid (there_no w r s _ _ _ wh j hx.blk hj)
    have HNO := Lib.hid (none_ok w r s _ _ _ wh 2 j hx.blk)
    clear hx hP hl hn hj eQ hE hX
    go_enter Tryz.func37, Tryz.ntmps37
    go_wp2_with fail
    refine HT.out.mono ?_
    rintro e w' ⟨rfl, rfl⟩
    go_wp2_with fail
    refine HNO.out.mono ?_
    rintro e w3 ⟨rfl, ho, hb3⟩
    have hF : Q (.returned (.tuple #[.slice none 0 0, .int .i64 2])) w3 := by
      rw [EQ.out]
      obtain ⟨t1, t2⟩ := HX.out.turn HP.out HL.out HN.out ho hb3 HX.out.wf rfl rfl rfl rfl rfl
      exact ⟨_, rfl, .inl ⟨rfl, rfl⟩, t1, t2⟩
    have HF := Lib.hid hF
    clear hF ho hb3 HNO HT
    go_wp2_with fail
    first | exact HF.out | (go_ret2; exact HF.out)
set_option maxHeartbeats 2000000 in
set_option maxRecDepth 100000 in
theorem rwaiting_ok (P : Nat → Prop) (w : World) (r : Nat) (s : DSt) (wh j : Int) (n : Nat) (h : RRep P w r s wh n) (hn24 : n * 24 ≤ 140737488355328) :
    Calls Tryz.prog 45 #[.pointer (some ⟨r, 0, none⟩), .int .i64 j] w fun e w' => e = .returned (.int .i64 (waitN s j)) ∧ Below w.heap.size w w' := by
  obtain ⟨Bm, Bs, cm, cs, vc, G, C, hx, hP, hl, hn⟩ := h
  have hc := rcached_ok w r Bm Bs cm cs vc G s C wh j hx (Nat.le_trans (Nat.mul_le_mul_right 24 hn) hn24)
  have hwn : ((partI C j).length : Int) = waitN s j := by
    unfold waitN
    by_cases hj : 0 ≤ j
    · obtain ⟨k, rfl⟩ : ∃ k : Nat, j = k := ⟨j.toNat, by omega⟩
      rw [if_pos hj, show ((k : Int)).toNat = k by omega, partI_nat, hx.rel k]
    · rw [if_neg hj, partI_neg C (by omega)]; rfl
  have HC := Lib.hid hc
  have HW := Lib.hid hwn
  clear hx hP hl hn hc hwn
  go_enter Tryz.func45, Tryz.ntmps45
  go_wp2_with fail
  refine HC.out.mono ?_
  rintro e w2 ⟨v, rfl, ⟨Vs, ho, _⟩, hb⟩
  obtain ⟨A, c, rfl⟩ : ∃ A c, v = .slice A (partI C j).length c := by
    rcases ho.2 with ⟨h, h0⟩ | ⟨g, cap, cur, h, _⟩
    · exact ⟨none, 0, by rw [h, h0]⟩
    · exact ⟨_, _, h⟩
  have HB := Lib.hid hb
  clear ho hb HC
  go_wp2_with fail
  go_ret
  exact ⟨by first | exact congrArg (fun x => Ending.returned (.int .i64 x)) HW.out | (rw [← HW.out]; rfl), HB.out⟩
end Go.Proofs.YtigfcoibbmndpaaGreat
