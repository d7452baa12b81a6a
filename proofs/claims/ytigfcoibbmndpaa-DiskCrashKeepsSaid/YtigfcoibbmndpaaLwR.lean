/- What is refused changes nothing: DiskRefused, the walk. -/
import Derived.Test.YtigfcoibbmndpaaLwQ
import Derived.Test.YtigfcoibbmndpaaLwN
import Derived.Outline
namespace Go.Proofs.Ytigfcoibbmndpaa
open Go.RowKit
open Go.ChangeMaps
set_option linter.unusedVariables false
set_option linter.unusedSimpArgs false
theorem Alike.symm {s t : DSt} (h : Alike s t) : Alike t s := ⟨h.nb.symm, h.sz.symm, h.du.symm, h.sp.symm, h.ca.symm, h.off.symm⟩
theorem Alike.trans {s t u : DSt} (h : Alike s t) (h2 : Alike t u) : Alike s u := ⟨h2.nb.trans h.nb, h2.sz.trans h.sz, h2.du.trans h.du, h2.sp.trans h.sp, h2.ca.trans h.ca, h2.off.trans h.off⟩
/-- The blocks from lo to hi stay as they are in w0; no disk owns one of them. -/
structure Kept (lo hi : Nat) (w0 W : World) (O P : Nat → Prop) : Prop where
  on : OnlyP (fun b => b < lo ∨ hi ≤ b) w0 W
  o : ∀ b, O b → b < lo ∨ hi ≤ b
  p : ∀ b, P b → b < lo ∨ hi ≤ b
  sz : hi ≤ w0.heap.size
theorem Kept.start {w w0 : World} {O P : Nat → Prop} (lo : Nat) (ho : ∀ b, O b → b < lo) (hp : ∀ b, P b → b < lo) : Kept lo w0.heap.size w0 w0 O P := ⟨OnlyP.refl _ _, fun b hb => .inl (ho b hb), fun b hb => .inl (hp b hb), Nat.le_refl _⟩
theorem Kept.below {lo hi : Nat} {w0 W W2 : World} {O P : Nat → Prop} (h : Kept lo hi w0 W O P) (hb : Below W.heap.size W W2) : Kept lo hi w0 W2 O P := ⟨h.on.then (OnlyP.ofBelow hb), h.o, h.p, h.sz⟩
theorem Kept.stepA {lo hi : Nat} {w0 W W2 : World} {O O2 P : Nat → Prop} (h : Kept lo hi w0 W O P) (ho : OnlyP O W W2) (hO : ∀ b, O2 b → O b ∨ W.heap.size ≤ b) : Kept lo hi w0 W2 O2 P :=
  ⟨h.on.trans ho (fun k hk => .inl (h.o k hk)), fun b hb => (hO b hb).elim (h.o b) (fun g => .inr (Nat.le_trans h.sz (Nat.le_trans h.on.size g))), h.p, h.sz⟩
theorem Kept.stepB {lo hi : Nat} {w0 W W2 : World} {O P P2 : Nat → Prop} (h : Kept lo hi w0 W O P) (ho : OnlyP P W W2) (hO : ∀ b, P2 b → P b ∨ W.heap.size ≤ b) : Kept lo hi w0 W2 O P2 :=
  ⟨h.on.trans ho (fun k hk => .inl (h.p k hk)), h.o, fun b hb => (hO b hb).elim (h.p b) (fun g => .inr (Nat.le_trans h.sz (Nat.le_trans h.on.size g))), h.sz⟩
theorem Kept.blk {lo hi : Nat} {w0 W : World} {O P : Nat → Prop} (h : Kept lo hi w0 W O P) {g : Nat} {t : TypeId} {cs : Array Value} (hb : Blk w0 g t cs) (h1 : lo ≤ g) (h2 : g < hi) : Blk W g t cs := (h.on.block g hb.lt (fun hc => by omega)).trans hb
theorem SeenV.kept {lo hi n : Nat} {w0 W : World} {O P : Nat → Prop} {bv ev : Value} {xs : Nat → List Int} {es : Nat → Int} (h : SeenV lo w0 bv ev n xs es) (hk : Kept lo hi w0 W O P) (hh : hi = w0.heap.size) : SeenV lo W bv ev n xs es :=
  h.only hk.on (fun b h1 h2 hc => by omega)
theorem own_kept {lo hi n : Nat} {w0 W : World} {O P : Nat → Prop} {e : TypeId} {v : Value} {xs : List Value} (h : w0.ownsRow lo e 1 v n xs) (hk : Kept lo hi w0 W O P) (hh : hi = w0.heap.size) : W.ownsRow lo e 1 v n xs :=
  own_only2 h hk.on (fun b h1 h2 hc => by omega)
theorem rd_kept {k : IntKind} {lo hi : Nat} {w0 W : World} {O P : Nat → Prop} {v : Value} {xs : List Int} (h : Rd k w0 v xs) (hv : ∀ b off n c, v = .slice (some ⟨b, off, none⟩) n c → lo ≤ b) (hk : Kept lo hi w0 W O P) (hh : hi = w0.heap.size) : Rd k W v xs := by
  rcases h with h | ⟨b, off, c, rfl, h1, h2, h3, h4⟩
  · exact .inl h
  · refine .inr ⟨b, off, c, rfl, h1, h2, Nat.lt_of_lt_of_le h3 hk.on.size, fun i hi' => ?_⟩
    have := hv b off _ c rfl
    exact (cell_of_heap (hk.on.block b h3 (fun hc => by omega)) (off + i)).trans (h4 i hi')
theorem Two.stepA' {w wc w2 : World} {d c : Nat} {s s2 t : DSt} {O P : Nat → Prop} (h : Two w wc d s O c t P) (hst : DStep O wc w2 d s2) : ∃ O2, Two w w2 d s2 O2 c t P ∧ OnlyP O wc w2 ∧ ∀ b, O2 b → O b ∨ wc.heap.size ≤ b := by
  obtain ⟨O2, hc, hO, ho⟩ := h.a.step hst
  refine ⟨O2, ⟨hc, ⟨h.b.rep.keep (fun x hx => ho.block x (h.b.rep.lt hx) (fun hO => h.ne x hO hx)) ho.size, h.b.new, hc.bel⟩, fun x hx hp => ?_⟩, ho, hO⟩
  rcases hO x hx with h1 | h1
  · exact h.ne x h1 hp
  · have := h.b.rep.lt hp; omega
theorem Two.stepB' {w wc w2 : World} {d c : Nat} {s t t2 : DSt} {O P : Nat → Prop} (h : Two w wc d s O c t P) (hst : DStep P wc w2 c t2) : ∃ P2, Two w w2 d s O c t2 P2 ∧ OnlyP P wc w2 ∧ ∀ b, P2 b → P b ∨ wc.heap.size ≤ b := by
  obtain ⟨P2, h2, h3, h4⟩ := h.flip.stepA' hst
  exact ⟨P2, h2.flip, h3, h4⟩
/-- The refused calls, one behind the other. -/
noncomputable def refsS (s : DSt) (os : List OpV) : DSt := os.foldl refS s
theorem refsS_succ (s : DSt) (os : List OpV) (i : Nat) (h : i < os.length) : refsS s (os.take (i + 1)) = refS (refsS s (os.take i)) (os.getD i d0) := by
  unfold refsS
  rw [List.take_add_one, List.foldl_append, List.getD_eq_getElem?_getD, List.getElem?_eq_getElem h]
  rfl
theorem refsS_alike (os : List OpV) : ∀ s : DSt, Alike s (refsS s os) ∧ (Live s → Live (refsS s os)) := by
  induction os with
  | nil => intro s; exact ⟨Alike.refl s, fun h => h⟩
  | cons o os ih =>
    intro s
    obtain ⟨h1, h2⟩ := refS_alike s o
    obtain ⟨h3, h4⟩ := ih (refS s o)
    exact ⟨h1.trans h3, fun h => h4 (h2 h)⟩
theorem cachedL_at {s : DSt} {x : Int} (h : x ∈ cachedL s) : ∃ k : Nat, k < s.nb ∧ x = k := by
  obtain ⟨k, h1, _, h3⟩ := (keysL_mem _ _ _).1 h
  exact ⟨k, h1, h3⟩
theorem cachedL_len (s : DSt) : (cachedL s).length ≤ s.nb := by
  unfold cachedL keysL
  rw [List.length_map]
  exact Nat.le_trans (List.length_filter_le _ _) (by simp)
set_option maxHeartbeats 2000000 in
set_option maxRecDepth 100000 in
theorem refused_law (w : World) (nb sz : Int) (ov pv lv kv : Value) (os ls : List OpV) (ps : List PutV) (ks : List Int) (ho : OpsR w ov os) (hp : PutsR w pv ps) (hl : OpsR w lv ls) (hk : Rd .u8 w kv ks) (hkb : BytesL ks) (hkl : ks.length ≤ 9223372036854775807) :
    Calls Try.prog 6 #[.int .i64 nb, .int .i64 sz, ov, pv, lv, kv] w fun e w' => e = .returned (.bool true) ∧ Below w.heap.size w w' := by
  obtain ⟨Q, eQ⟩ : ∃ Q : Ending → World → Prop, Q = fun e w' => e = .returned (.bool true) ∧ Below w.heap.size w w' := ⟨_, rfl⟩
  rw [← eQ]
  have EQ := Lib.hid eQ
  by_cases hu : Usable nb sz
  · have hub := usableB_yes hu
    obtain ⟨hu1, hu2, hu3⟩ := hu
    obtain ⟨nb, rfl⟩ : ∃ n : Nat, nb = n := ⟨nb.toNat, by omega⟩
    obtain ⟨sz, rfl⟩ : ∃ n : Nat, sz = n := ⟨sz.toNat, by omega⟩
    have hsz : Size sz := by unfold Size; omega
    have hus := usable_ok w nb sz
    rw [hub] at hus
    have hfr : ∀ W, Below w.heap.size w W → Calls Try.prog 11 #[.int .i64 nb, .int .i64 sz, ov] W (FreshQ W nb sz os) := fun W hW => freshD_ok W nb sz ov os (by omega) (by omega) hsz (ho.below hW)
    obtain ⟨f1, f2, f3, f4⟩ := freshS_facts nb sz os
    have hnb1 : 1 ≤ nb := by omega
    have hnb2 : nb ≤ 8192 := by omega
    have hsz1 : sz ≤ 1024 := by omega
    obtain ⟨s0, es0⟩ : ∃ s0, s0 = freshS nb sz os := ⟨_, rfl⟩
    rw [← es0] at f1 f2 f3 f4
    unfold FreshQ at hfr
    rw [← es0] at hfr
    obtain ⟨Ak, ck, rfl⟩ := hk.slice
    obtain ⟨Al, cl, rfl⟩ := hl.slice
    obtain ⟨L, eL⟩ : ∃ L, L = ls.length := ⟨_, rfl⟩
    have hL : L * 48 ≤ 140737488351232 := by rw [eL]; exact hl.1
    have hPL : ps.length * 40 ≤ 140737488351232 := hp.1
    have EL := Lib.hid eL
    rw [← eL] at hl ⊢
    have HUS := Lib.hid hus
    have HFR := Lib.hid hfr
    have HFR1 := Lib.hid (hfr w (Below.refl _ _))
    have HP := Lib.hid hp
    have HK := Lib.hid hk
    have HKB := Lib.hid hkb
    have HKL := Lib.hid hkl
    have HLS := Lib.hid hl
    have F1 := Lib.hid f1
    have F2 := Lib.hid f2
    have F3 := Lib.hid f3
    have F4 := Lib.hid f4
    clear eQ hub hu1 hu2 hu3 hus hfr f1 f2 f3 f4 hp hk hkb hkl ho es0 hsz hl eL
    go_enter Try.func6, Try.ntmps6
    go_wp2_with (go_at_call 10; with_reducible refine HUS.out.mono ?_; rintro e w' ⟨rfl, rfl⟩)
    refine HFR1.out.mono ?_
    rintro e w1 ⟨d, O1, rfl, hd1, hO1, hb1⟩
    have hcur1 : Cur w w1 d s0 O1 := ⟨hd1, hO1, hb1⟩
    have HC1 := Lib.hid hcur1
    have HFR2 := Lib.hid (HFR.out w1 hb1)
    clear hcur1 hd1 hO1 hb1 HFR HFR1 HUS
    go_wp2_with fail
    refine HFR2.out.mono ?_
    rintro e w2 ⟨c, P2, rfl, hd2, hP2, hb2⟩
    have htwo := Two.mk' HC1.out hd2 hP2 hb2
    have hpu := puts_ok O1 w w2 d s0 pv ps htwo.a.rep htwo.a.bel htwo.a.new HP.out F3.out (fun k => by rw [F4.out]; rfl)
    rw [F1.out, F2.out] at hpu
    have HT2 := Lib.hid htwo
    have HPU := Lib.hid hpu
    clear htwo hpu hd2 hP2 hb2 HC1 HFR2
    go_wp2_with fail
    refine HPU.out.mono ?_
    rintro e w3 ⟨rfl, hst3⟩
    obtain ⟨O3, ht3, _, _⟩ := HT2.out.stepA' hst3
    have hpu := puts_ok P2 w w3 c s0 pv ps ht3.b.rep ht3.b.bel ht3.b.new HP.out F3.out (fun k => by rw [F4.out]; rfl)
    rw [F1.out, F2.out] at hpu
    have HT3 := Lib.hid ht3
    have HPU2 := Lib.hid hpu
    clear ht3 hpu hst3 HT2 HPU
    go_wp2_with fail
    refine HPU2.out.mono ?_
    rintro e w4 ⟨rfl, hst4⟩
    obtain ⟨P4, ht4, _, _⟩ := HT3.out.stepB' hst4
    have hg1 := putsS_grows s0 ps
    have hlv1 := putsS_live F3.out ps
    obtain ⟨s1, es1⟩ : ∃ s1, s1 = putsS s0 ps := ⟨_, rfl⟩
    rw [← es1] at ht4 hg1 hlv1
    have N1 := Lib.hid (show s1.nb = nb by rw [hg1.1, F1.out])
    have Z1 := Lib.hid (show s1.sz = sz by rw [hg1.2.1, F2.out])
    have hca1 : ∀ k, (s1.ca k).length ≤ ps.length := fun k => by have := hg1.2.2 k; rw [F4.out] at this; simpa using this
    have HCA1 := Lib.hid hca1
    have HLV1 := Lib.hid hlv1
    have HT4 := Lib.hid ht4
    clear ht4 hst4 hg1 hlv1 hca1 es1 HT3 HPU2
    go_wp2_with fail
    go_loopw [18, 19] (fun b _ wr => ∃ i : Nat, i ≤ L ∧ b = .int .i64 i ∧ ∃ O', Two w wr d (refsS s1 (ls.take i)) O' c s1 P4) (fun b _ _ => L - (intOf b).toNat)
    case atStart => exact ⟨0, Nat.zero_le _, rfl, O3, HT4.out⟩
    case round =>
      obtain ⟨i, hi, rfl, O5, ht5⟩ := hrel
      obtain ⟨al5, lv5⟩ := refsS_alike (ls.take i) s1
      have HT5 := Lib.hid ht5
      have HAL5 := Lib.hid al5
      have HLV5 := Lib.hid (lv5 HLV1.out)
      clear ht5 al5 lv5 HT4
      by_cases hlt : i < L
      · obtain ⟨bb, off, rfl, hbb, ho0, ho1⟩ := HLS.out.at HT5.out.a.bel (i := i) (by rw [← EL.out]; exact hlt)
        obtain ⟨o, eo⟩ : ∃ o, o = ls.getD i d0 := ⟨_, rfl⟩
        rw [← eo] at ho0 ho1
        have k0 := ho1.c0
        have k1 := ho1.c1
        have k2 := ho1.c2
        have k3 := ho1.c3
        have hrf := refused_ok O5 wr d _ o HT5.out.a.rep (HT5.out.a.rd ho0.rd) (fun k => by rw [HAL5.out.ca]; have := HCA1.out k; omega) ho0.i1 ho0.i2
        rw [HAL5.out.nb, HAL5.out.sz, N1.out, Z1.out, eo, ← refsS_succ _ _ _ (by rw [← EL.out]; exact hlt), ← eo] at hrf
        unfold OpV.agg at hrf
        have HRF := Lib.hid hrf
        clear ho0 ho1 eo hrf
        go_wp2_with fail
        refine HRF.out.mono ?_
        rintro e w6 ⟨rfl, hst6⟩
        obtain ⟨O6, ht6, _, _⟩ := HT5.out.stepA' hst6
        have HT6 := Lib.hid ht6
        clear ht6 hst6 HT5 HRF
        go_wp2_with fail
        go_roundw
        case rel => exact ⟨i + 1, by omega, by go_num, O6, HT6.out⟩
        case measure => simp [intOf] <;> omega
      · obtain rfl : L = i := by omega
        obtain ⟨w5, rfl⟩ : ∃ x, x = wr := ⟨_, rfl⟩
        obtain ⟨sA, esA⟩ : ∃ sA, sA = refsS s1 (ls.take L) := ⟨_, rfl⟩
        rw [← esA] at HT5 HAL5 HLV5
        have hcc := cached_ok O5 w5 d sA HT5.out.a.rep
        have HCC := Lib.hid hcc
        clear hcc esA
        go_wp2_with fail
        refine HCC.out.mono ?_
        rintro e w6 ⟨lv6, rfl, hrl6, hlo6, hb6⟩
        have ht6 := HT5.out.below hb6
        have hcc := cached_ok P4 w6 c s1 ht6.b.rep
        have HT6 := Lib.hid ht6
        have HRL6 := Lib.hid hrl6
        have HLO6 := Lib.hid hlo6
        have HCC2 := Lib.hid hcc
        have B6 := Lib.hid hb6
        clear ht6 hrl6 hlo6 hcc hb6 HCC
        go_wp2_with fail
        refine HCC2.out.mono ?_
        rintro e w7 ⟨kv7, rfl, hrk7, hko7, hb7⟩
        have ht7 := HT6.out.below hb7
        rw [← HAL5.out.cached] at hrk7
        have hrl7 := HRL6.out.below hb7
        have HT7 := Lib.hid ht7
        have HRL7 := Lib.hid hrl7
        have HRK7 := Lib.hid hrk7
        have HKO7 := Lib.hid hko7
        have B7 := Lib.hid hb7
        obtain ⟨A6, c6, rfl⟩ := hrl7.slice
        obtain ⟨A7, c7, rfl⟩ := hrk7.slice
        have hlen := cachedL_len sA
        rw [HAL5.out.nb, N1.out] at hlen
        obtain ⟨M, eM⟩ : ∃ M, M = (cachedL sA).length := ⟨_, rfl⟩
        rw [← eM] at hlen ⊢
        have EM := Lib.hid eM
        have HRL6b := Lib.hid (show Rd .i64 w6 (.slice A6 M c6) (cachedL sA) by rw [eM]; exact HRL6.out)
        have HLO6b := Lib.hid (show ∀ b off n c, Value.slice A6 M c6 = .slice (some ⟨b, off, none⟩) n c → w5.heap.size ≤ b by rw [eM]; exact HLO6.out)
        have HRK7b := Lib.hid (show Rd .i64 w7 (.slice A7 M c7) (cachedL sA) by rw [eM]; exact HRK7.out)
        have HKO7b := Lib.hid (show ∀ b off n c, Value.slice A7 M c7 = .slice (some ⟨b, off, none⟩) n c → w6.heap.size ≤ b by rw [eM]; exact HKO7.out)
        clear ht7 hrl7 hrk7 hko7 hb7 eM HCC2 HRL6
        go_wp2_with fail
        go_loopw [22] (fun b wr => ∃ i : Nat, i ≤ M ∧ b = .int .i64 i ∧ ∃ m, wr = w7.drewN m) (fun b _ => M - (intOf b).toNat)
        case atStart => exact ⟨0, Nat.zero_le _, rfl, 0, rfl⟩
        case round =>
          obtain ⟨i2, hi2, rfl, m2, hwr⟩ := hrel
          have HWR := Lib.hid hwr
          clear hwr
          by_cases hlt2 : i2 < M
          · obtain ⟨bb, off, rfl, hcell⟩ : ∃ bb off, A6 = some ⟨bb, off, none⟩ ∧ ∀ j, j < M → w7.cell? ⟨bb, off + j, none⟩ = some (.int .i64 ((cachedL sA).getD j 0)) := by
              rcases HRL7.out with ⟨h, _⟩ | ⟨b, off, c, e, g1, g2, g3, g4⟩
              · rw [EM.out, h] at hlt2; simp at hlt2
              · simp only [Value.slice.injEq] at e
                exact ⟨b, off, e.1, fun j hj => g4 j (by rw [← EM.out]; exact hj)⟩
            obtain ⟨k, hk1, hk2⟩ := cachedL_at (s := sA) (x := (cachedL sA).getD i2 0) (by
              rw [List.getD_eq_getElem?_getD, List.getElem?_eq_getElem (by rw [← EM.out]; exact hlt2)]
              exact List.getElem_mem _)
            have hk3 : k < nb := by rw [HAL5.out.nb, N1.out] at hk1; exact hk1
            have cl0 : wr.cell? ⟨bb, off + i2, none⟩ = some (.int .i64 k) := by rw [HWR.out, ← hk2]; exact hcell i2 hlt2
            have hTr : Two w wr d sA O5 c s1 P4 := by rw [HWR.out]; exact HT7.out.below (below_drewN (Below.refl _ _) m2)
            obtain ⟨V, eV⟩ : ∃ V : Int, V = waitN sA k := ⟨_, rfl⟩
            have hwa : ∀ n, Calls Try.prog 31 #[.pointer (some ⟨d, 0, none⟩), .int .i64 k] (wr.drewN n) fun e w'' => e = .returned (.int .i64 V) ∧ ∃ m, w'' = wr.drewN m := fun n =>
              (waiting_ok O5 (wr.drewN n) d sA k (i64_nat k (by omega)) (hTr.a.rep.drewN n)).mono (fun e w'' ⟨h1, h2⟩ => ⟨by rw [eV]; exact h1, n, h2.symm⟩)
            have hwb : ∀ n, Calls Try.prog 31 #[.pointer (some ⟨c, 0, none⟩), .int .i64 k] (wr.drewN n) fun e w'' => e = .returned (.int .i64 V) ∧ ∃ m, w'' = wr.drewN m := fun n =>
              (waiting_ok P4 (wr.drewN n) c s1 k (i64_nat k (by omega)) (hTr.b.rep.drewN n)).mono (fun e w'' ⟨h1, h2⟩ => ⟨by rw [eV]; unfold waitN at h1 ⊢; rw [HAL5.out.ca]; exact h1, n, h2.symm⟩)
            have HWA := Lib.hid hwa
            have HWB := Lib.hid hwb
            clear hcell hk1 hk2 hTr eV hwa hwb
            go_wp2_with fail
            go_quiet ((first | (go_at_call 31; with_reducible exact HWA.out _) | (go_at_call 31; with_reducible exact HWB.out _)))
            go_wp2_with fail
            go_roundw
            case rel => exact ⟨i2 + 1, by omega, by go_num, _, by rw [HWR.out, drewN_two]⟩
            case measure => simp [intOf] <;> omega
          · have htr : Two w wr d sA O5 c s1 P4 := by rw [HWR.out]; exact HT7.out.below (below_drewN (Below.refl _ _) m2)
            have hb7r : Below w7.heap.size w7 wr := by rw [HWR.out]; exact below_drewN (Below.refl _ _) m2
            have him := image_ok O5 wr d sA htr.a.rep
            have hlO : ∀ b, O5 b → b < w5.heap.size := fun b hb => HT5.out.a.rep.lt hb
            have hlP : ∀ b, P4 b → b < w5.heap.size := fun b hb => HT5.out.b.rep.lt hb
            have kl := (Kept.start (w := w) (w0 := w6) w5.heap.size hlO hlP).below (B7.out)
            have kk := (Kept.start (w := w) (w0 := w7) w6.heap.size (fun b hb => Nat.lt_of_lt_of_le (hlO b hb) B6.out.size) (fun b hb => Nat.lt_of_lt_of_le (hlP b hb) B6.out.size))
            have HKL2 := Lib.hid (kl.below hb7r)
            have HKK := Lib.hid (kk.below hb7r)
            have HTR := Lib.hid htr
            have HIM := Lib.hid him
            have HLO := Lib.hid hlO
            have HLP := Lib.hid hlP
            have hsz5 : w5.heap.size ≤ wr.heap.size := Nat.le_trans B6.out.size (Nat.le_trans B7.out.size hb7r.size)
            clear htr hb7r him hlO hlP kl kk
            go_wp2_with fail
            refine HIM.out.mono ?_
            rintro e w8 ⟨x8, rfl, hx8, hon8, hd8⟩
            have ht8 := HTR.out.sameA hon8 hd8
            have HX8 := Lib.hid hx8
            have HT8 := Lib.hid ht8
            have HON8 := Lib.hid hon8
            have HIM2 := Lib.hid (image_ok P4 w8 c s1 ht8.b.rep)
            clear hx8 hon8 hd8 ht8 HIM
            go_wp2_with fail
            refine HIM2.out.mono ?_
            rintro e w9 ⟨y9, rfl, hy9, hon9, hd9⟩
            rw [← HAL5.out.img] at hy9
            have ht9 := HT8.out.sameB hon9 hd9
            have hl9 := rd_kept HRL6b.out HLO6b.out ((HKL2.out.stepA HON8.out (fun b hb => .inl hb)).stepB hon9 (fun b hb => .inl hb)) rfl
            have hk9 := rd_kept HRK7b.out HKO7b.out ((HKK.out.stepA HON8.out (fun b hb => .inl hb)).stepB hon9 (fun b hb => .inl hb)) rfl
            have hwfA := HT5.out.a.rep.wf
            have hil : (imgL sA sA.nb).length ≤ 8388608 := by
              rw [imgL_len hwfA _ (Nat.le_refl _)]
              exact Nat.le_trans (Nat.mul_le_mul hwfA.nb2 hwfA.sz1) (by decide)
            have hx9 : Rd .u8 w9 x8 (imgL sA sA.nb) := own_rd (own_only2 HX8.out hon9 (fun g hg _ hc => by have := HLP.out g hc; omega)) rfl
            have hy9' : Rd .u8 w9 y9 (imgL sA sA.nb) := own_rd hy9 rfl
            have hsi := sameI_ok _ _ _ _ w9 hl9 hk9 (by rw [← EM.out]; unfold maxLen; omega) (by rw [← EM.out]; unfold maxLen; omega)
            rw [show decide (cachedL sA = cachedL sA) = true from decide_eq_true rfl] at hsi
            have hsb : ∀ m, Calls Try.prog 17 #[x8, y9] (w9.drewN m) (SameP (w9.drewN m) true) := fun m => by
              have h := sameB_ok _ _ _ _ (w9.drewN m) (hx9.below (below_drewN (Below.refl _ _) m)) (hy9'.below (below_drewN (Below.refl _ _) m)) (by unfold maxLen; omega) (by unfold maxLen; omega)
              rw [show decide (imgL sA sA.nb = imgL sA sA.nb) = true from decide_eq_true rfl] at h
              exact h
            obtain ⟨Ax, nx, qx, rfl⟩ := own_slice HX8.out
            obtain ⟨Ay, ny, qy, rfl⟩ := own_slice hy9
            have HT9 := Lib.hid ht9
            have HSI := Lib.hid hsi
            have HSB := Lib.hid hsb
            have HS9 : Hid (w5.heap.size ≤ w9.heap.size) := Lib.hid (Nat.le_trans hsz5 (Nat.le_trans HON8.out.size hon9.size))
            clear hy9 hon9 hd9 ht9 hl9 hk9 hwfA hil hx9 hy9' hsi hsb HIM2 hsz5 HX8 HON8 HT8 HTR HKL2 HKK
            go_wp2_with fail
            refine HSI.out.mono ?_
            rintro e w10 ⟨m10, rfl, hw10⟩
            have HSB10 := Lib.hid (HSB.out m10)
            rw [← hw10] at HSB10
            have HW10 := Lib.hid hw10
            clear hw10 HSI HSB
            go_wp2_with fail
            refine HSB10.out.mono ?_
            rintro e wq ⟨mq, rfl, hwq⟩
            have htq : Two w wq d sA O5 c s1 P4 := by
              rw [hwq, HW10.out]
              exact HT9.out.below (below_drewN (below_drewN (Below.refl _ _) m10) mq)
            have hsq : w5.heap.size ≤ wq.heap.size := by rw [hwq, HW10.out]; exact HS9.out
            have hse := seen_ok O5 wq d sA htq.a.rep (fun k => by rw [HAL5.out.ca]; have := HCA1.out k; omega)
            rw [HAL5.out.nb, N1.out] at hse
            have HTQ := Lib.hid htq
            have HSQ := Lib.hid hsq
            have HSE := Lib.hid hse
            clear htq hsq hse hwq HSB10 HW10 HT9
            go_wp2_with fail
            refine HSE.out.mono ?_
            rintro e w11 ⟨bva, eva, ca, rfl, hsva, hona, hda⟩
            rw [HAL5.out.nb, N1.out] at hsva
            obtain ⟨Vsa, hVa, _⟩ := hsva.b
            obtain ⟨gBa, qa, rfl, _, _⟩ := own_at hVa (by omega)
            obtain ⟨gEa, ra, rfl, _, _⟩ := own_at hsva.e (by omega)
            obtain ⟨wA, ewA⟩ : ∃ wA, wA = w11.alloc (.cells #[.slice (some ⟨gBa, 0, none⟩) nb qa, .slice (some ⟨gEa, 0, none⟩) nb ra] 35) := ⟨_, rfl⟩
            have hbA : Below w11.heap.size w11 wA := by rw [ewA]; exact (Below.refl _ _).alloc (Nat.le_refl _) _
            have hblA : Blk wA w11.heap.size 35 #[.slice (some ⟨gBa, 0, none⟩) nb qa, .slice (some ⟨gEa, 0, none⟩) nb ra] := by rw [ewA]; exact Blk.new _ _ _
            have hszA : wA.heap.size = w11.heap.size + 1 := by rw [ewA]; simp
            obtain ⟨sB, esB⟩ : ∃ sB, sB = withC0 sA ca := ⟨_, rfl⟩
            have hala : Alike s1 sB := by rw [esB]; exact HAL5.out.trans (withC0_alike _ _)
            have hta := (HTQ.out.sameA hona hda).below hbA
            rw [← esB] at hta
            have ka := Kept.start (w := w) (w0 := wA) (O := O5) (P := P4) wq.heap.size (fun b hb => by have := HLO.out b hb; have := HSQ.out; omega) (fun b hb => by have := HLP.out b hb; have := HSQ.out; omega)
            have hse := seen_ok P4 wA c s1 hta.b.rep (fun k => by have := HCA1.out k; omega)
            rw [N1.out] at hse
            have EWA := Lib.hid ewA
            have HSVA := Lib.hid (hsva.below hbA)
            have HBLA := Lib.hid hblA
            have HSZA := Lib.hid hszA
            have HONA := Lib.hid hona
            have HALA := Lib.hid hala
            have HTA := Lib.hid hta
            have HKA := Lib.hid ka
            have HSE2 := Lib.hid hse
            clear hVa hsva hona hda hbA hblA hszA hala hta ka hse ewA esB HSE HTQ
            go_wp2_with fail
            rw [← EWA.out]
            refine HSE2.out.mono ?_
            rintro e w12 ⟨bvb, evb, cb, rfl, hsvb, honb, hdb⟩
            rw [N1.out] at hsvb
            obtain ⟨Vsb, hVb, _⟩ := hsvb.b
            obtain ⟨gBb, qb, rfl, _, _⟩ := own_at hVb (by omega)
            obtain ⟨gEb, rb, rfl, _, _⟩ := own_at hsvb.e (by omega)
            obtain ⟨wB, ewB⟩ : ∃ wB, wB = w12.alloc (.cells #[.slice (some ⟨gBb, 0, none⟩) nb qb, .slice (some ⟨gEb, 0, none⟩) nb rb] 35) := ⟨_, rfl⟩
            have hbB : Below w12.heap.size w12 wB := by rw [ewB]; exact (Below.refl _ _).alloc (Nat.le_refl _) _
            have hblB : Blk wB w12.heap.size 35 #[.slice (some ⟨gBb, 0, none⟩) nb qb, .slice (some ⟨gEb, 0, none⟩) nb rb] := by rw [ewB]; exact Blk.new _ _ _
            have hszB : wB.heap.size = w12.heap.size + 1 := by rw [ewB]; simp
            obtain ⟨tB, etB⟩ : ∃ tB, tB = withC0 s1 cb := ⟨_, rfl⟩
            have halb : Alike s1 tB := by rw [etB]; exact withC0_alike _ _
            have htb := (HTA.out.sameB honb hdb).below hbB
            rw [← etB] at htb
            have hszq : w5.heap.size ≤ wA.heap.size := by have := HSQ.out; have := HONA.out.size; have := HSZA.out; omega
            have kb := Kept.start (w := w) (w0 := wB) (O := O5) (P := P4) wA.heap.size (fun b hb => by have := HLO.out b hb; omega) (fun b hb => by have := HLP.out b hb; omega)
            have ka := (HKA.out.stepB honb (fun b hb => .inl hb)).below hbB
            have hcrd := crash_ok O5 wB d sB _ ks htb.a.rep (htb.a.rd HK.out) HKB.out HKL.out (fun k => by rw [HALA.out.ca]; have := HCA1.out k; omega)
            have EWB := Lib.hid ewB
            have HSVB := Lib.hid (hsvb.below hbB)
            have HBLB := Lib.hid hblB
            have HSZB := Lib.hid hszB
            have HONB := Lib.hid honb
            have HALB := Lib.hid halb
            have HTB := Lib.hid htb
            have HKA := Lib.hid ka
            have HKB2 := Lib.hid kb
            have HCRD := Lib.hid hcrd
            clear hVb hsvb honb hdb hbB hblB hszB halb htb hszq kb ka hcrd ewB etB HSE2 HTA EWA
            go_wp2_with fail
            rw [← EWB.out]
            refine HCRD.out.mono ?_
            rintro e w13 ⟨rfl, hst13⟩
            obtain ⟨O13, ht13, ho13, hO13⟩ := HTB.out.stepA' hst13
            have hcrc := crash_ok P4 w13 c tB _ ks ht13.b.rep (ht13.b.rd HK.out) HKB.out HKL.out (fun k => by rw [HALB.out.ca]; have := HCA1.out k; omega)
            have HKA := Lib.hid (HKA.out.stepA ho13 hO13)
            have HKB2 := Lib.hid (HKB2.out.stepA ho13 hO13)
            have HT13 := Lib.hid ht13
            have HCRC := Lib.hid hcrc
            clear hst13 ht13 ho13 hO13 hcrc HCRD EWB HTB
            go_wp2_with fail
            refine HCRC.out.mono ?_
            rintro e w14 ⟨rfl, hst14⟩
            obtain ⟨P14, ht14, ho14, hP14⟩ := HT13.out.stepB' hst14
            have HKA := Lib.hid (HKA.out.stepB ho14 hP14)
            have HKB2 := Lib.hid (HKB2.out.stepB ho14 hP14)
            have halC := (HALB.out.symm.trans HALA.out).crash ks
            obtain ⟨sC, esC⟩ : ∃ sC, sC = crashS sB ks := ⟨_, rfl⟩
            obtain ⟨tC, etC⟩ : ∃ tC, tC = crashS tB ks := ⟨_, rfl⟩
            have hcaC : ∀ k, sC.ca k = [] := fun k => by rw [esC]; rfl
            have hcaD : ∀ k, tC.ca k = [] := fun k => by rw [etC]; rfl
            have hnC : sC.nb = nb := by rw [esC]; exact HALA.out.nb.trans N1.out
            have hnD : tC.nb = nb := by rw [etC]; exact HALB.out.nb.trans N1.out
            rw [← esC, ← etC] at halC
            rw [← esC, ← etC] at ht14
            have hse := seen_ok O13 w14 d sC ht14.a.rep (fun k => by rw [hcaC k]; simp)
            rw [hnC] at hse
            have HT14 := Lib.hid ht14
            have HALC := Lib.hid halC
            have HCAC := Lib.hid hcaC
            have HCAD := Lib.hid hcaD
            have HNC := Lib.hid hnC
            have HND := Lib.hid hnD
            have HSE3 := Lib.hid hse
            clear hst14 ht14 ho14 hP14 halC hcaC hcaD hnC hnD hse esC etC HCRC HT13
            go_wp2_with fail
            refine HSE3.out.mono ?_
            rintro e w15 ⟨bvc, evc, cc, rfl, hsvc, honc, hdc⟩
            rw [HNC.out] at hsvc
            obtain ⟨Vsc, hVc, _⟩ := hsvc.b
            obtain ⟨gBc, qc, rfl, _, _⟩ := own_at hVc (by omega)
            obtain ⟨gEc, rc, rfl, _, _⟩ := own_at hsvc.e (by omega)
            obtain ⟨wC, ewC⟩ : ∃ wC, wC = w15.alloc (.cells #[.slice (some ⟨gBc, 0, none⟩) nb qc, .slice (some ⟨gEc, 0, none⟩) nb rc] 35) := ⟨_, rfl⟩
            have hbC : Below w15.heap.size w15 wC := by rw [ewC]; exact (Below.refl _ _).alloc (Nat.le_refl _) _
            have hblC : Blk wC w15.heap.size 35 #[.slice (some ⟨gBc, 0, none⟩) nb qc, .slice (some ⟨gEc, 0, none⟩) nb rc] := by rw [ewC]; exact Blk.new _ _ _
            have hszC : wC.heap.size = w15.heap.size + 1 := by rw [ewC]; simp
            have htc := (HT14.out.sameA honc hdc).below hbC
            have kc := Kept.start (w := w) (w0 := wC) (O := O13) (P := P14) w14.heap.size (fun b hb => HT14.out.a.rep.lt hb) (fun b hb => HT14.out.b.rep.lt hb)
            have hse := seen_ok P14 wC c tC htc.b.rep (fun k => by rw [HCAD.out k]; simp)
            rw [HND.out] at hse
            have EWC := Lib.hid ewC
            have HSVC := Lib.hid (hsvc.below hbC)
            have HBLC := Lib.hid hblC
            have HSZC := Lib.hid hszC
            have HONC := Lib.hid honc
            have HTC := Lib.hid htc
            have HKA := Lib.hid ((HKA.out.stepA honc (fun b hb => .inl hb)).below hbC)
            have HKB2 := Lib.hid ((HKB2.out.stepA honc (fun b hb => .inl hb)).below hbC)
            have HKC := Lib.hid kc
            have HSE4 := Lib.hid hse
            clear hVc hsvc honc hdc hbC hblC hszC htc kc hse ewC HSE3
            go_wp2_with fail
            rw [← EWC.out]
            refine HSE4.out.mono ?_
            rintro e w16 ⟨bvd, evd, cd, rfl, hsvd, hond, hdd⟩
            rw [HND.out] at hsvd
            obtain ⟨Vsd, hVd, _⟩ := hsvd.b
            obtain ⟨gBd, qd, rfl, _, _⟩ := own_at hVd (by omega)
            obtain ⟨gEd, rd, rfl, _, _⟩ := own_at hsvd.e (by omega)
            obtain ⟨wD, ewD⟩ : ∃ wD, wD = w16.alloc (.cells #[.slice (some ⟨gBd, 0, none⟩) nb qd, .slice (some ⟨gEd, 0, none⟩) nb rd] 35) := ⟨_, rfl⟩
            have hbD : Below w16.heap.size w16 wD := by rw [ewD]; exact (Below.refl _ _).alloc (Nat.le_refl _) _
            have hblD : Blk wD w16.heap.size 35 #[.slice (some ⟨gBd, 0, none⟩) nb qd, .slice (some ⟨gEd, 0, none⟩) nb rd] := by rw [ewD]; exact Blk.new _ _ _
            have hszD : wD.heap.size = w16.heap.size + 1 := by rw [ewD]; simp
            have htd := (HTC.out.sameB hond hdd).below hbD
            have ka := (HKA.out.stepB hond (fun b hb => .inl hb)).below hbD
            have kb := (HKB2.out.stepB hond (fun b hb => .inl hb)).below hbD
            have kc := (HKC.out.stepB hond (fun b hb => .inl hb)).below hbD
            have va := HSVA.out.kept ka rfl
            have vb := HSVB.out.kept kb rfl
            have vc := HSVC.out.kept kc rfl
            have vd := hsvd.below hbD
            have z1 := HSQ.out
            have z2 := HONA.out.size
            have z3 := HSZA.out
            have z4 := HONB.out.size
            have z5 := HSZB.out
            have z6 := HONC.out.size
            have z7 := HSZC.out
            have z8 := hond.size
            have ba := ka.blk HBLA.out (by omega) (by omega)
            have bb := kb.blk HBLB.out (by omega) (by omega)
            have bc := kc.blk HBLC.out (by omega) (by omega)
            -- where the two are alike
            have halA : Alike s1 sA := HAL5.out
            have hlen1 : ∀ j, j < nb → (readX sA j).length ≤ 1024 := fun j hj => by
              have hwf := HT5.out.a.rep.wf
              have hlt : j < sA.nb := by rw [HAL5.out.nb, N1.out]; exact hj
              obtain ⟨_, r2⟩ := read_view HLV5.out hlt
              rw [r2]
              split
              · simp
              · unfold viewX
                split
                · rename_i hne
                  have hl := hwf.cl j ((sA.ca j).getD ((sA.ca j).length - 1) []) (by
                    rw [List.getD_eq_getElem?_getD, List.getElem?_eq_getElem (by have := List.length_pos_iff.2 hne; omega)]
                    exact List.getElem_mem _)
                  rw [hl]; exact hwf.sz1
                · rw [hwf.dl j hlt]; exact hwf.sz1
            have hlen2 : ∀ j, j < nb → (readX sC j).length ≤ 1024 := fun j hj => readX_len HT14.out.a.rep.wf HCAC.out j (by rw [HNC.out]; exact hj)
            have hs1 := sameSeen_ok _ _ wD _ _ _ _ nb _ _ _ _ va vb hnb2 hlen1 (fun j _ => HAL5.out.readX j) (fun j _ => HAL5.out.readE j)
            have hs2 : ∀ W, Below wD.heap.size wD W → Calls Try.prog 20 #[.agg #[.slice (some ⟨gBc, 0, none⟩) nb qc, .slice (some ⟨gEc, 0, none⟩) nb rc], .agg #[.slice (some ⟨gBd, 0, none⟩) nb qd, .slice (some ⟨gEd, 0, none⟩) nb rd]] W fun e w' => e = .returned (.bool true) ∧ Below W.heap.size W w' := fun W hW =>
              sameSeen_ok _ _ W _ _ _ _ nb _ _ _ _ (vc.below hW) (vd.below hW) hnb2 hlen2 (fun j _ => HALC.out.readX j) (fun j _ => HALC.out.readE j)
            have hcl : ∀ W, Below wD.heap.size wD W → W.cell? ⟨w15.heap.size, 0, none⟩ = some (.slice (some ⟨gBc, 0, none⟩) nb qc) ∧ W.cell? ⟨w15.heap.size, 1, none⟩ = some (.slice (some ⟨gEc, 0, none⟩) nb rc) ∧ W.cell? ⟨w16.heap.size, 0, none⟩ = some (.slice (some ⟨gBd, 0, none⟩) nb qd) ∧ W.cell? ⟨w16.heap.size, 1, none⟩ = some (.slice (some ⟨gEd, 0, none⟩) nb rd) := fun W hW =>
              ⟨(bc.below hW (by omega)).cell 0, (bc.below hW (by omega)).cell 1, (hblD.below hW (by omega)).cell 0, (hblD.below hW (by omega)).cell 1⟩
            have hfin : ∀ W, Below wD.heap.size wD W → Q (.returned (.bool true)) W := fun W hW => by
              rw [EQ.out]
              exact ⟨rfl, (htd.a.below hW).bel⟩
            have k0 : wD.cell? ⟨w11.heap.size, 0, none⟩ = some (.slice (some ⟨gBa, 0, none⟩) nb qa) := ba.cell 0
            have k1 : wD.cell? ⟨w11.heap.size, 1, none⟩ = some (.slice (some ⟨gEa, 0, none⟩) nb ra) := ba.cell 1
            have k2 : wD.cell? ⟨w12.heap.size, 0, none⟩ = some (.slice (some ⟨gBb, 0, none⟩) nb qb) := bb.cell 0
            have k3 : wD.cell? ⟨w12.heap.size, 1, none⟩ = some (.slice (some ⟨gEb, 0, none⟩) nb rb) := bb.cell 1
            obtain ⟨k4, k5, k6, k7⟩ := hcl wD (Below.refl _ _)
            have EWD := Lib.hid ewD
            have HS1 := Lib.hid hs1
            have HS2 := Lib.hid hs2
            have HCL := Lib.hid hcl
            have HF := Lib.hid hfin
            rw [ewD] at k0 k1 k2 k3 k4 k5 k6 k7
            clear hVd hsvd hond hdd hbD hblD hszD htd ka kb kc va vb vc vd z1 z2 z3 z4 z5 z6 z7 z8 ba bb bc halA hlen1 hlen2 hs1 hs2 hcl hfin ewD HSE4
            go_wp2_with fail
            rw [← EWD.out]
            refine HS1.out.mono ?_
            rintro e w17 ⟨rfl, hb17⟩
            obtain ⟨j4, j5, j6, j7⟩ := HCL.out w17 hb17
            have HS17 := Lib.hid (HS2.out w17 hb17)
            have HB17 := Lib.hid hb17
            clear hb17 HS1 HS2 k0 k1 k2 k3 k4 k5 k6 k7
            go_wp2_with fail
            refine HS17.out.mono ?_
            rintro e w18 ⟨rfl, hb18⟩
            have HF18 := Lib.hid (HF.out w18 (HB17.out.trans (hb18.mono HB17.out.size)))
            clear hb18 HF HS17
            go_wp2_with fail
            first | exact HF18.out | (go_ret; exact HF18.out)
  · have hus := usable_ok w nb sz
    rw [usableB_no hu] at hus
    have HUS := Lib.hid hus
    have HF := Lib.hid (show Q (.returned (.bool true)) w by rw [eQ]; exact ⟨rfl, Below.refl _ _⟩)
    clear hus hu ho hp hk hl eQ
    go_enter Try.func6, Try.ntmps6
    go_wp2_with (go_at_call 10; with_reducible refine HUS.out.mono ?_; rintro e w' ⟨rfl, rfl⟩)
    first | exact HF.out | (go_ret; exact HF.out)
end Go.Proofs.Ytigfcoibbmndpaa
