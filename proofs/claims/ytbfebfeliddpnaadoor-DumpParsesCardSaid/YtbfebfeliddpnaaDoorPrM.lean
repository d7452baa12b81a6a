/- The program's Parse. -/
import Derived.Test.YtbfebfeliddpnaaDoorPrL
import Derived.Outline
import Derived.Deep.CutRange
namespace Go.Proofs.YtbfebfeliddpnaaDoor
open Go.RowKit
open Go.ChangeMaps
set_option linter.unusedVariables false
set_option linter.unusedSimpArgs false
/-- What Parse answers: a dump in memory of its own, or the zero dump. -/
def ParseQ (w : World) (s : ByteArray) (e : Ending) (w' : World) : Prop :=
  Below w.heap.size w w' ∧ if 65536 < s.size then e = .returned (.tuple #[.agg zDump, .int .i64 0, .int .i64 6]) else match parseD s with
    | .error p => e = .returned (.tuple #[.agg zDump, .int .i64 (p : Nat), .int .i64 191])
    | .ok m => ∃ vb vs, e = .returned (.tuple #[.agg (m.arr vb vs), .int .i64 0, .int .i64 0]) ∧ WordsIn w.heap.size w' vb m.bl m.bits ∧ w'.ownsRow w.heap.size 3 1 vs m.slots.length (m.slots.map (Value.int .i64))
set_option maxRecDepth 100000 in
theorem parse_results (tmps : Array Value) (w : World) (g0 g1 g2 : Nat) {b0 b1 b2 b3 b4 b5 b6 b7 b8 b9 b10 b11 x y : Value} (hp : tmps.getD 2 undef = .pointer (some ⟨g0, 0, none⟩)) (hq : tmps.getD 3 undef = .pointer (some ⟨g1, 0, none⟩)) (hr : tmps.getD 4 undef = .pointer (some ⟨g2, 0, none⟩))
    (h0 : Blk w g0 31 #[b0, b1, b2, b3, b4, b5, b6, b7, b8, b9, b10, b11]) (h1 : Blk w g1 3 #[x]) (h2 : Blk w g2 32 #[y]) : (results Tryd.f9 tmps).run Tryd.prog w = .ok (.tuple #[.agg #[b0, b1, b2, b3, b4, b5, b6, b7, b8, b9, b10, b11], x, y]) w := by
  have hp' : tmps[2]?.getD undef = .pointer (some ⟨g0, 0, none⟩) := by simpa using hp
  have hq' : tmps[3]?.getD undef = .pointer (some ⟨g1, 0, none⟩) := by simpa using hq
  have hr' : tmps[4]?.getD undef = .pointer (some ⟨g2, 0, none⟩) := by simpa using hr
  have d0 := h0.cell 0
  have d1 := h0.cell 1
  have d2 := h0.cell 2
  have d3 := h0.cell 3
  have d4 := h0.cell 4
  have d5 := h0.cell 5
  have d6 := h0.cell 6
  have d7 := h0.cell 7
  have d8 := h0.cell 8
  have d9 := h0.cell 9
  have d10 := h0.cell 10
  have d11 := h0.cell 11
  have d12 := h1.cell 0
  have d13 := h2.cell 0
  simp only [List.getElem?_toArray, List.getElem?_cons_zero, List.getElem?_cons_succ] at d0 d1 d2 d3 d4 d5 d6 d7 d8 d9 d10 d11 d12 d13
  simp [results, Tryd.results9, hp', hq', hr', asAddr, go_sem, d0, d1, d2, d3, d4, d5, d6, d7, d8, d9, d10, d11, d12, d13]
set_option maxHeartbeats 4000000 in
set_option maxRecDepth 100000 in
theorem parse_ok (w : World) (s : ByteArray) (hsz : s.size ≤ 9223372036854775807) (ht : FlagTab w) : Calls Tryd.prog 9 #[.string s] w (ParseQ w s) := by
  obtain ⟨Q, eQ⟩ : ∃ Q, Q = ParseQ w s := ⟨_, rfl⟩
  rw [← eQ]
  have EQ := Lib.hid eQ
  have hmf : ∀ (fn : Fn) (first cap : Array Value) (w : World), (Instr.makeFunc fn first cap).run Tryd.prog w = .ok (.func fn first cap) w := fun _ _ _ _ => rfl
  have hbr := build_run
  have HT := Lib.hid ht
  clear eQ ht
  by_cases hs : 65536 < s.size
  · have d0 : decide ((65536 : Int) < s.size) = true := decide_eq_true (by omega)
    obtain ⟨wa, ewa⟩ : ∃ x, x = w.alloc (.cells #[.int .u64 0, .int .i64 0, .int .i64 0, .int .i64 0, .int .u64 0, .int .u64 0, .int .u64 0, .int .u64 0, .int .u32 0, .int .i64 0, .slice none 0 0, .slice none 0 0] 31) := ⟨_, rfl⟩
    obtain ⟨wb, ewb⟩ : ∃ x, x = wa.alloc (.cells #[.int .i64 0] 3) := ⟨_, rfl⟩
    obtain ⟨wc, ewc⟩ : ∃ x, x = wb.alloc (.cells #[.int .i64 6] 32) := ⟨_, rfl⟩
    have za : wa.heap.size = w.heap.size + 1 := by rw [ewa]; simp
    have zb : wb.heap.size = w.heap.size + 1 + 1 := by rw [ewb, size_alloc, za]
    have h0 : Blk wc w.heap.size 31 #[.int .u64 0, .int .i64 0, .int .i64 0, .int .i64 0, .int .u64 0, .int .u64 0, .int .u64 0, .int .u64 0, .int .u32 0, .int .i64 0, .slice none 0 0, .slice none 0 0] := by rw [ewc, ewb, ewa]; exact ((Blk.new _ _ _).alloc _).alloc _
    have h1 : Blk wc (w.heap.size + 1) 3 #[.int .i64 0] := by rw [ewc, ewb, ← za]; exact (Blk.new _ _ _).alloc _
    have h2 : Blk wc (w.heap.size + 1 + 1) 32 #[.int .i64 6] := by rw [ewc, ← zb]; exact Blk.new _ _ _
    have hF : Q (.returned (.tuple #[.agg #[.int .u64 0, .int .i64 0, .int .i64 0, .int .i64 0, .int .u64 0, .int .u64 0, .int .u64 0, .int .u64 0, .int .u32 0, .int .i64 0, .slice none 0 0, .slice none 0 0], .int .i64 0, .int .i64 6])) wc := by
      rw [EQ.out]
      refine ⟨?_, ?_⟩
      · rw [ewc, ewb, ewa]; exact (((Below.refl _ _).alloc (Nat.le_refl _) _).alloc (by simp) _).alloc (by simp; omega) _
      · rw [if_pos hs]; rfl
    have HF := Lib.hid hF
    have H0 := Lib.hid h0
    have H1 := Lib.hid h1
    have H2 := Lib.hid h2
    clear hs hF h0 h1 h2 za zb
    go_enter_defers Tryd.func9, Tryd.ntmps9
    go_wp2_with fail
    rw [← ewa, ← ewb, ← ewc]
    exact ⟨_, parse_results _ _ _ _ _ rfl rfl rfl H0.out H1.out H2.out, HF.out⟩
  · have d0 : decide ((65536 : Int) < s.size) = false := decide_eq_false (by omega)
    obtain ⟨wa, ewa⟩ : ∃ x, x = w.alloc (.cells #[.int .u64 0, .int .i64 0, .int .i64 0, .int .i64 0, .int .u64 0, .int .u64 0, .int .u64 0, .int .u64 0, .int .u32 0, .int .i64 0, .slice none 0 0, .slice none 0 0] 31) := ⟨_, rfl⟩
    obtain ⟨wb, ewb⟩ : ∃ x, x = wa.alloc (.cells #[.int .i64 0] 3) := ⟨_, rfl⟩
    obtain ⟨wc, ewc⟩ : ∃ x, x = wb.alloc (.cells #[.int .i64 0] 32) := ⟨_, rfl⟩
    obtain ⟨wd, ewd⟩ : ∃ x, x = wc.alloc (.cells #[.string s, .int .i64 0] 65) := ⟨_, rfl⟩
    have za : wa.heap.size = w.heap.size + 1 := by rw [ewa]; simp
    have zb : wb.heap.size = w.heap.size + 1 + 1 := by rw [ewb, size_alloc, za]
    have zc : wc.heap.size = w.heap.size + 1 + 1 + 1 := by rw [ewc, size_alloc, zb]
    have hbel : Below w.heap.size w wd := by rw [ewd, ewc, ewb, ewa]; exact ((((Below.refl _ _).alloc (Nat.le_refl _) _).alloc (by simp) _).alloc (by simp; omega) _).alloc (by simp; omega) _
    obtain ⟨g0, eg0⟩ : ∃ x, x = w.heap.size := ⟨_, rfl⟩
    obtain ⟨g1, eg1⟩ : ∃ x, x = w.heap.size + 1 := ⟨_, rfl⟩
    obtain ⟨g2, eg2⟩ : ∃ x, x = w.heap.size + 1 + 1 := ⟨_, rfl⟩
    obtain ⟨r, er⟩ : ∃ x, x = w.heap.size + 1 + 1 + 1 := ⟨_, rfl⟩
    have h0 : Blk wd g0 31 #[.int .u64 0, .int .i64 0, .int .i64 0, .int .i64 0, .int .u64 0, .int .u64 0, .int .u64 0, .int .u64 0, .int .u32 0, .int .i64 0, .slice none 0 0, .slice none 0 0] := by rw [ewd, ewc, ewb, ewa, eg0]; exact (((Blk.new _ _ _).alloc _).alloc _).alloc _
    have h1 : Blk wd g1 3 #[.int .i64 0] := by rw [ewd, ewc, ewb, eg1, ← za]; exact ((Blk.new _ _ _).alloc _).alloc _
    have h2 : Blk wd g2 32 #[.int .i64 0] := by rw [ewd, ewc, eg2, ← zb]; exact (Blk.new _ _ _).alloc _
    have h3 : RdB wd r s 0 := by rw [ewd, er, ← zc]; exact Blk.new _ _ _
    have htd : FlagTab wd := by
      obtain ⟨t, ht⟩ := HT.out
      exact ⟨t, ht.below hbel ht.lt⟩
    have hdm := dump_ok wd r s 0 h3 (Nat.zero_le _) (by omega) htd
    have HDM := Lib.hid hdm
    have HB := Lib.hid hbel
    have HG := Lib.hid (show w.heap.size ≤ g0 ∧ w.heap.size ≤ g1 ∧ w.heap.size ≤ g2 ∧ w.heap.size ≤ r ∧ g0 ≠ g1 ∧ g0 ≠ g2 ∧ g1 ≠ g2 ∧ g0 ≠ r ∧ g1 ≠ r ∧ g2 ≠ r from by refine ⟨?_, ?_, ?_, ?_, ?_, ?_, ?_, ?_, ?_, ?_⟩ <;> omega)
    have HS := Lib.hid hs
    have H0 := Lib.hid h0
    have H1 := Lib.hid h1
    have H2 := Lib.hid h2
    clear hs h0 h1 h2 h3 htd hdm hbel za zb zc
    go_enter_defers Tryd.func9, Tryd.ntmps9
    go_wp2_with fail
    rw [show w.heap.size + 1 + 1 + 1 = r from er.symm, show w.heap.size + 1 + 1 = g2 from eg2.symm, show w.heap.size + 1 = g1 from eg1.symm, show w.heap.size = g0 from eg0.symm, ← ewa, ← ewb, ← ewc, ← ewd]
    clear ewa ewb ewc ewd er eg2 eg1 eg0 hbr hmf
    refine HDM.out.mono ?_
    intro e w1 hq
    obtain ⟨ho, hq⟩ := hq
    have hx : parseD s = pMeta s dm0 (toks s 0) := rfl
    rw [← hx] at hq
    have K0 := Lib.hid ((ho.block g0 H0.out.lt HG.out.2.2.2.2.2.2.2.1).trans H0.out : Blk w1 g0 31 zDump)
    have K1 := Lib.hid ((ho.block g1 H1.out.lt HG.out.2.2.2.2.2.2.2.2.1).trans H1.out : Blk w1 g1 3 #[.int .i64 0])
    have K2 := Lib.hid ((ho.block g2 H2.out.lt HG.out.2.2.2.2.2.2.2.2.2).trans H2.out : Blk w1 g2 32 #[.int .i64 0])
    have HB1 := Lib.hid (HB.out.trans (ho.below HB.out.size (by rintro x rfl; exact HG.out.2.2.2.1)))
    cases hpd : parseD s with
    | error p =>
      rw [hpd] at hq
      simp only at hq
      subst hq
      have hF : ∀ w2, OnlyP (fun b => b = g0 ∨ b = g1 ∨ b = g2) w1 w2 → Q (.returned (.tuple #[.agg zDump, .int .i64 (p : Nat), .int .i64 191])) w2 := by
        intro w2 ho2
        rw [EQ.out]
        refine ⟨HB1.out.trans (ho2.below HB1.out.size (by intro x hx; have := HG.out; omega)), ?_⟩
        rw [if_neg HS.out, hpd]
      have HF := Lib.hid hF
      clear hF hpd ho hx HDM H0 H1 H2
      unfold faultE
      go_wp2_with fail
      refine leaves_cons (f := 23) (args := #[.pointer (some ⟨g0, 0, none⟩), .pointer (some ⟨g1, 0, none⟩), .pointer (some ⟨g2, 0, none⟩)]) (by simp) (by simp [go_sem]) ?_
      refine (parse_caught g0 g1 g2 p w1 K0.out K1.out K2.out HG.out.2.2.2.2.1 HG.out.2.2.2.2.2.1 HG.out.2.2.2.2.2.2.1).mono ?_
      rintro e u' w2 ⟨rfl, rfl, k0, k1, k2, ko⟩
      exact ⟨_, parse_results _ _ g0 g1 g2 rfl rfl rfl k0 k1 k2, HF.out w2 ko⟩
    | ok m =>
      rw [hpd] at hq
      simp only at hq
      obtain ⟨vb, vs, rfl, ⟨B, rfl, hB, hrb⟩, hrow⟩ := hq
      obtain ⟨As, cs, rfl⟩ := own_form hrow
      have hlt : ∀ x, x = g0 ∨ x = g1 ∨ x = g2 → x < wd.heap.size := by
        rintro x (rfl | rfl | rfl)
        · exact H0.out.lt
        · exact H1.out.lt
        · exact H2.out.lt
      have hF : ∀ w2, OnlyP (fun b => b = g0 ∨ b = g1 ∨ b = g2) w1 w2 → Q (.returned (.tuple #[.agg (m.arr (.slice (some ⟨B, 0, none⟩) ((m.bl + 63) / 64) ((m.bl + 63) / 64)) (.slice As m.slots.length cs)), .int .i64 0, .int .i64 0])) w2 := by
        intro w2 ho2
        rw [EQ.out]
        refine ⟨HB1.out.trans (ho2.below HB1.out.size (by intro x hx; have := HG.out; omega)), ?_⟩
        rw [if_neg HS.out, hpd]
        refine ⟨_, _, rfl, ⟨B, rfl, Nat.le_trans HB.out.size hB, hrb.only ho2 (fun hx => by have := hlt B hx; omega)⟩, own_lower (own_only hrow ho2 hlt) HB.out.size⟩
      have HF := Lib.hid hF
      unfold Dm.arr at HF ⊢
      obtain ⟨L, eL⟩ : ∃ L, L = m.slots.length := ⟨_, rfl⟩
      obtain ⟨W, eW⟩ : ∃ W, W = (m.bl + 63) / 64 := ⟨_, rfl⟩
      obtain ⟨sq, esq⟩ : ∃ x, x = m.sq := ⟨_, rfl⟩
      obtain ⟨bl, ebl⟩ : ∃ x, x = m.bl := ⟨_, rfl⟩
      obtain ⟨sz, esz⟩ : ∃ x, x = m.sz := ⟨_, rfl⟩
      obtain ⟨sl, esl⟩ : ∃ x, x = m.sl := ⟨_, rfl⟩
      obtain ⟨m0, em0⟩ : ∃ x, x = m.g0 := ⟨_, rfl⟩
      obtain ⟨m1, em1⟩ : ∃ x, x = m.g1 := ⟨_, rfl⟩
      obtain ⟨m2, em2⟩ : ∃ x, x = m.g2 := ⟨_, rfl⟩
      obtain ⟨m3, em3⟩ : ∃ x, x = m.g3 := ⟨_, rfl⟩
      obtain ⟨fl, efl⟩ : ∃ x, x = m.fl := ⟨_, rfl⟩
      obtain ⟨mr, emr⟩ : ∃ x, x = m.mr := ⟨_, rfl⟩
      rw [← eL, ← eW, ← esq, ← ebl, ← esz, ← esl, ← em0, ← em1, ← em2, ← em3, ← efl, ← emr] at HF ⊢
      clear eL eW esq ebl esz esl em0 em1 em2 em3 efl emr hF hpd ho hx HDM H0 H1 H2 hB hrb hrow hlt
      have k0 : Blk w1 g0 31 zDump := K0.out
      have k1 : Blk w1 g1 3 #[.int .i64 0] := K1.out
      have k2 : Blk w1 g2 32 #[.int .i64 0] := K2.out
      obtain ⟨_, _, _, _, n01, n02, n12, _⟩ := HG.out
      have z0 : w1.cell? ⟨g0, 0, none⟩ = some (.int .u64 0) := k0.cell 0
      have f0 : w1.frozen? ⟨g0, 0, none⟩ = false := k0.free 0
      have z1 : w1.cell? ⟨g0, 1, none⟩ = some (.int .i64 0) := k0.cell 1
      have f1 : w1.frozen? ⟨g0, 1, none⟩ = false := k0.free 1
      have z2 : w1.cell? ⟨g0, 2, none⟩ = some (.int .i64 0) := k0.cell 2
      have f2 : w1.frozen? ⟨g0, 2, none⟩ = false := k0.free 2
      have z3 : w1.cell? ⟨g0, 3, none⟩ = some (.int .i64 0) := k0.cell 3
      have f3 : w1.frozen? ⟨g0, 3, none⟩ = false := k0.free 3
      have z4 : w1.cell? ⟨g0, 4, none⟩ = some (.int .u64 0) := k0.cell 4
      have f4 : w1.frozen? ⟨g0, 4, none⟩ = false := k0.free 4
      have z5 : w1.cell? ⟨g0, 5, none⟩ = some (.int .u64 0) := k0.cell 5
      have f5 : w1.frozen? ⟨g0, 5, none⟩ = false := k0.free 5
      have z6 : w1.cell? ⟨g0, 6, none⟩ = some (.int .u64 0) := k0.cell 6
      have f6 : w1.frozen? ⟨g0, 6, none⟩ = false := k0.free 6
      have z7 : w1.cell? ⟨g0, 7, none⟩ = some (.int .u64 0) := k0.cell 7
      have f7 : w1.frozen? ⟨g0, 7, none⟩ = false := k0.free 7
      have z8 : w1.cell? ⟨g0, 8, none⟩ = some (.int .u32 0) := k0.cell 8
      have f8 : w1.frozen? ⟨g0, 8, none⟩ = false := k0.free 8
      have z9 : w1.cell? ⟨g0, 9, none⟩ = some (.int .i64 0) := k0.cell 9
      have f9 : w1.frozen? ⟨g0, 9, none⟩ = false := k0.free 9
      have z10 : w1.cell? ⟨g0, 10, none⟩ = some (.slice none 0 0) := k0.cell 10
      have f10 : w1.frozen? ⟨g0, 10, none⟩ = false := k0.free 10
      have z11 : w1.cell? ⟨g0, 11, none⟩ = some (.slice none 0 0) := k0.cell 11
      have f11 : w1.frozen? ⟨g0, 11, none⟩ = false := k0.free 11
      have z12 : w1.cell? ⟨g1, 0, none⟩ = some (.int .i64 0) := k1.cell 0
      have f12 : w1.frozen? ⟨g1, 0, none⟩ = false := k1.free 0
      have z13 : w1.cell? ⟨g2, 0, none⟩ = some (.int .i64 0) := k2.cell 0
      have f13 : w1.frozen? ⟨g2, 0, none⟩ = false := k2.free 0
      clear k0 k1 k2
      go_wp2_with fail
      refine leaves_cons (f := 23) (args := #[.pointer (some ⟨g0, 0, none⟩), .pointer (some ⟨g1, 0, none⟩), .pointer (some ⟨g2, 0, none⟩)]) (by simp) (by simp [go_sem]) ?_
      refine (parse_idle _ _ _ _).mono ?_
      rintro e u' w2 ⟨rfl, rfl, rfl⟩
      exact ⟨_, parse_results _ _ g0 g1 g2 rfl rfl rfl (((Blk.sets K0.out _ _ _ _ _ _ _ _ _ _ _ _).far n01 _).far n02 _) ((((Blk.setsFar K1.out (fun e => n01 e.symm) [_, _, _, _, _, _, _, _, _, _, _, _] 0).set 0 _).far n12 _)) ((((Blk.setsFar K2.out (fun e => n02 e.symm) [_, _, _, _, _, _, _, _, _, _, _, _] 0).far (fun e => n12 e.symm) _).set 0 _)), HF.out _ (((OnlyP.sets (.inl (.inl rfl)) [_, _, _, _, _, _, _, _, _, _, _, _] 0 _ (OnlyP.refl _ _)).set (p := ⟨g1, 0, none⟩) (.inl (.inr (.inl rfl))) _).set (p := ⟨g2, 0, none⟩) (.inl (.inr (.inr rfl))) _)⟩
end Go.Proofs.YtbfebfeliddpnaaDoor
