/- A flush is a barrier: DiskBarrier, the walk. -/
import Derived.Test.YtigfcoibbmndpaaLwL
import Derived.Test.YtigfcoibbmndpaaLwM
import Derived.Outline
import Derived.Deep.RegionWith
import Derived.Deep.RegionHeld3
import Derived.Deep.Cut
namespace Go.Proofs.Ytigfcoibbmndpaa
open Go.RowKit
open Go.ChangeMaps
set_option linter.unusedVariables false
set_option linter.unusedSimpArgs false
theorem flushC_facts (s : DSt) (h : Live s) : Live (flushC s) ∧ (∀ k, (flushC s).ca k = []) ∧ (flushC s).nb = s.nb ∧ (flushC s).sz = s.sz := ⟨h, fun k => rfl, rfl, rfl⟩
theorem flushS_live {s : DSt} (h : Live s) : flushS s = flushC s ∧ stepB s = true := by
  obtain ⟨h1, h2⟩ := h.step
  exact ⟨by unfold flushS; rw [if_pos h2, h1], h2⟩
theorem barrier_read (s : DSt) (hs : Live s) (ps : List PutV) (i : Nat) (hi : i < ps.length) (h1 : 1 ≤ s.nb) (h0 : ∀ k, s.ca k = []) :
    readE (flushC (putsS s ps)) ((ps.getD i p0).at s.nb : Nat) = 0 ∧ (lastB ps i s.nb = true → readX (flushC (putsS s ps)) ((ps.getD i p0).at s.nb : Nat) = padF (ps.getD i p0).txt s.sz) := by
  have hg := putsS_grows s ps
  have hlv := putsS_live hs ps
  have hk : (ps.getD i p0).at s.nb < (flushC (putsS s ps)).nb := by
    show _ < (putsS s ps).nb
    rw [hg.1]; exact PutV.at_lt _ h1
  obtain ⟨r1, r2⟩ := read_view (s := flushC (putsS s ps)) hlv hk
  have hv : viewB (flushC (putsS s ps)) ((ps.getD i p0).at s.nb) = false := by rw [(view_flush _ _).2]; exact puts_ok_at s ps i hi
  rw [hv] at r1 r2
  refine ⟨r1, fun hl => ?_⟩
  rw [r2, if_neg (by simp), (view_flush _ _).1]
  exact puts_last s ps i hi hl
theorem withC0_alike (s : DSt) (c : Int) : Alike s (withC0 s c) := ⟨rfl, rfl, rfl, rfl, rfl, rfl⟩
theorem own_at {w : World} {B : Nat} {e : TypeId} {v : Value} {n : Nat} {xs : List Value} (h : w.ownsRow B e 1 v n xs) (hp : 0 < n) : ∃ g cap, v = .slice (some ⟨g, 0, none⟩) n cap ∧ g < w.heap.size ∧ ∀ i, i < n → w.cell? ⟨g, i, none⟩ = xs[i]? :=
  let ⟨g, cap, h1, _, h3, _, _, h6⟩ := own_cells h hp; ⟨g, cap, h1, h3, h6⟩
set_option maxHeartbeats 2000000 in
set_option maxRecDepth 100000 in
theorem barrier_law (w : World) (nb sz : Int) (ov pv kv mv : Value) (os : List OpV) (ps : List PutV) (ks ms : List Int) (ho : OpsR w ov os) (hp : PutsR w pv ps) (hk : Rd .u8 w kv ks) (hm : Rd .u8 w mv ms) (hkb : BytesL ks) (hmb : BytesL ms) (hkl : ks.length ≤ 9223372036854775807) (hml : ms.length ≤ 9223372036854775807) :
    Calls Try.prog 3 #[.int .i64 nb, .int .i64 sz, ov, pv, kv, mv] w fun e w' => e = .returned (.bool true) ∧ Below w.heap.size w w' := by
  obtain ⟨Q, eQ⟩ : ∃ Q : Ending → World → Prop, Q = fun e w' => e = .returned (.bool true) ∧ Below w.heap.size w w' := ⟨_, rfl⟩
  rw [← eQ]
  have EQ := Lib.hid eQ
  by_cases hu : Usable nb sz
  · have hub := usableB_yes hu
    obtain ⟨hu1, hu2, hu3⟩ := hu
    obtain ⟨nb, rfl⟩ : ∃ n : Nat, nb = n := ⟨nb.toNat, by omega⟩
    obtain ⟨sz, rfl⟩ : ∃ n : Nat, sz = n := ⟨sz.toNat, by omega⟩
    have hsz : Size sz := by unfold Size; omega
    have hus := usable_ok w nb sz
    rw [hub] at hus
    have hfr := freshD_ok w nb sz ov os (by omega) (by omega) hsz ho
    obtain ⟨f1, f2, f3, f4⟩ := freshS_facts nb sz os
    have hnb1 : 1 ≤ nb := by omega
    have hnb2 : nb ≤ 8192 := by omega
    have hsz1 : sz ≤ 1024 := by omega
    obtain ⟨s0, es0⟩ : ∃ s0, s0 = freshS nb sz os := ⟨_, rfl⟩
    rw [← es0] at f1 f2 f3 f4
    unfold FreshQ at hfr
    rw [← es0] at hfr
    obtain ⟨Ak, ck, rfl⟩ := hk.slice
    obtain ⟨Am, cm, rfl⟩ := hm.slice
    obtain ⟨Ap, cp, rfl⟩ := hp.slice
    obtain ⟨L, eL⟩ : ∃ L, L = ps.length := ⟨_, rfl⟩
    have hL : L * 40 ≤ 140737488351232 := by rw [eL]; exact hp.1
    have EL := Lib.hid eL
    rw [← eL] at hp ⊢
    have hbr : ∀ i, i < L → readE (flushC (putsS s0 ps)) ((ps.getD i p0).at nb : Nat) = 0 ∧ (lastB ps i nb = true → readX (flushC (putsS s0 ps)) ((ps.getD i p0).at nb : Nat) = padF (ps.getD i p0).txt sz) := fun i hi => by
      have := barrier_read s0 f3 ps i (by rw [← eL]; exact hi) (by rw [f1]; exact hnb1) f4
      rw [f1, f2] at this; exact this
    have HBR0 := Lib.hid hbr
    have HUS := Lib.hid hus
    have HFR := Lib.hid hfr
    have HP := Lib.hid hp
    have HK := Lib.hid hk
    have HM := Lib.hid hm
    have HKB := Lib.hid hkb
    have HMB := Lib.hid hmb
    have HKL := Lib.hid hkl
    have HML := Lib.hid hml
    have F1 := Lib.hid f1
    have F2 := Lib.hid f2
    have F3 := Lib.hid f3
    have F4 := Lib.hid f4
    clear eQ hub hu1 hu2 hu3 hus hfr f1 f2 f3 f4 hp hk hm hkb hmb hkl hml ho es0 hsz eL hbr
    go_enter Try.func3, Try.ntmps3
    go_wp2_with (go_at_call 10; with_reducible refine HUS.out.mono ?_; rintro e w' ⟨rfl, rfl⟩)
    refine HFR.out.mono ?_
    rintro e w1 ⟨d, O1, rfl, hd1, hO1, hb1⟩
    have hcur1 : Cur w w1 d s0 O1 := ⟨hd1, hO1, hb1⟩
    have hpu := puts_ok O1 w w1 d s0 _ ps hd1 hb1 hO1 HP.out F3.out (fun k => by rw [F4.out]; rfl)
    rw [F1.out, F2.out] at hpu
    have HC1 := Lib.hid hcur1
    have HPU := Lib.hid hpu
    clear hcur1 hpu hd1 hO1 hb1 HFR HUS
    go_wp2_with fail
    refine HPU.out.mono ?_
    rintro e w2 ⟨rfl, hst2⟩
    obtain ⟨O2, hcur2, _, _⟩ := HC1.out.step hst2
    obtain ⟨s1, es1⟩ : ∃ s1, s1 = putsS s0 ps := ⟨_, rfl⟩
    rw [← es1] at hcur2
    have hg1 := putsS_grows s0 ps
    have hlv1 := putsS_live F3.out ps
    rw [← es1] at hg1 hlv1
    have hfl := flush_ok O2 w2 d s1 hcur2.rep (fun k => by have h9 := hg1.2.2 k; rw [F4.out] at h9; have := EL.out; simp at h9; omega)
    obtain ⟨e1, e2⟩ := flushS_live hlv1
    rw [e1, e2] at hfl
    obtain ⟨g1, g2, g3, g4⟩ := flushC_facts s1 hlv1
    obtain ⟨s2, es2⟩ : ∃ s2, s2 = flushC s1 := ⟨_, rfl⟩
    rw [← es2] at hfl g1 g2 g3 g4
    have ES2 := Lib.hid (show s2 = flushC (putsS s0 ps) by rw [es2, es1])
    have HL2 := Lib.hid g1
    have HCA2 := Lib.hid g2
    have HN2 := Lib.hid (show s2.nb = nb by rw [g3, hg1.1, F1.out])
    have HC2 := Lib.hid hcur2
    have HFL := Lib.hid hfl
    clear hcur2 hst2 hg1 hlv1 hfl e1 e2 g1 g2 g3 g4 es1 es2 HC1 HPU
    go_wp2_with fail
    refine HFL.out.mono ?_
    rintro e w3 ⟨rfl, hst3⟩
    obtain ⟨O3, hcur3, _, _⟩ := HC2.out.step hst3
    have hse := seen_ok O3 w3 d s2 hcur3.rep (fun k => by rw [HCA2.out k]; simp)
    rw [HN2.out] at hse
    have HC3 := Lib.hid hcur3
    have HSE := Lib.hid hse
    clear hcur3 hst3 hse HC2 HFL
    simp only [if_true]
    go_wp2_with fail
    refine HSE.out.mono ?_
    rintro e w5 ⟨bv, ev, c1, rfl, hsv, hon5, hd5⟩
    rw [HN2.out] at hsv
    obtain ⟨Vs, hV, hVs⟩ := hsv.b
    obtain ⟨gB, q1, rfl, hgB, hcB⟩ := own_at hV (by omega)
    obtain ⟨gE, q2, rfl, hgE, hcE⟩ := own_at hsv.e (by omega)
    have hcur5 := HC3.out.same hon5 hd5
    obtain ⟨wA, ewA⟩ : ∃ wA, wA = w5.alloc (.cells #[.slice (some ⟨gB, 0, none⟩) nb q1, .slice (some ⟨gE, 0, none⟩) nb q2] 35) := ⟨_, rfl⟩
    have hbA : Below w5.heap.size w5 wA := by rw [ewA]; exact (Below.refl _ _).alloc (Nat.le_refl _) _
    have hblA : Blk wA w5.heap.size 35 #[.slice (some ⟨gB, 0, none⟩) nb q1, .slice (some ⟨gE, 0, none⟩) nb q2] := by rw [ewA]; exact Blk.new _ _ _
    have hszA : wA.heap.size = w5.heap.size + 1 := by rw [ewA]; simp
    have hcurA := hcur5.below hbA
    have hsvA := hsv.below hbA
    have hcell : ∀ k, k < nb → ∃ v, ∀ W, Below wA.heap.size wA W → W.cell? ⟨w5.heap.size, 0, none⟩ = some (.slice (some ⟨gB, 0, none⟩) nb q1) ∧ W.cell? ⟨w5.heap.size, 1, none⟩ = some (.slice (some ⟨gE, 0, none⟩) nb q2) ∧ W.cell? ⟨gE, k, none⟩ = some (.int .i64 (readE s2 k)) ∧ W.cell? ⟨gB, k, none⟩ = some v ∧ Rd .u8 W v (readX s2 k) := fun k hk => by
      obtain ⟨v, h1, h2⟩ := hVs k hk
      refine ⟨v, fun W hW => ?_⟩
      have hWW : Below w5.heap.size w5 W := hbA.trans (hW.mono (by omega))
      refine ⟨(hblA.below hW (by omega)).cell 0, (hblA.below hW (by omega)).cell 1, ?_, ?_, ?_⟩
      · refine (cell_of_heap (hWW.block gE hgE) k).trans ((hcE k hk).trans ?_)
        simp [hk]
      · exact (cell_of_heap (hWW.block gB hgB) k).trans ((hcB k hk).trans h1)
      · exact (h2.below hWW).rd
    have EWA := Lib.hid ewA
    have HCELL := Lib.hid hcell
    have HSVA := Lib.hid hsvA
    have HCA := Lib.hid hcurA
    have HBLA := Lib.hid hblA
    have HSZA := Lib.hid hszA
    have HLT3 : Hid (∀ b, O3 b → b < w3.heap.size) := Lib.hid (fun b hb => HC3.out.rep.lt hb)
    have L35 := Lib.hid hon5.size
    clear hV hVs hcB hcE hsv hon5 hd5 hcur5 hbA hblA hszA hcurA hsvA hcell ewA HC3 HSE hgB hgE
    go_wp2_with fail
    rw [← EWA.out]
    have HB0 : Hid (Below wA.heap.size wA wA) := Lib.hid (Below.refl _ _)
    clear EWA
    go_loopw [17, 18] (fun b _ wr => ∃ i : Nat, i ≤ L ∧ b = .int .i64 i ∧ Below wA.heap.size wA wr) (fun b _ _ => L - (intOf b).toNat)
    case atStart => exact ⟨0, Nat.zero_le _, rfl, HB0.out⟩
    case round =>
      obtain ⟨i, hi, rfl, hbel⟩ := hrel
      have HBR := Lib.hid hbel
      clear hbel HB0
      by_cases hlt : i < L
      · obtain ⟨bb, off, rfl, hbb, hp0, hp1⟩ := HP.out.at (HCA.out.bel.trans (HBR.out.mono HCA.out.bel.size)) (i := i) (by rw [← EL.out]; exact hlt)
        obtain ⟨p, ep⟩ : ∃ p, p = ps.getD i p0 := ⟨_, rfl⟩
        rw [← ep] at hp0 hp1
        have k0 := hp1.c0
        have k1 := hp1.c1
        have k2 := hp1.c2
        obtain ⟨K, eK⟩ : ∃ K, K = p.at nb := ⟨_, rfl⟩
        have hKn : K < nb := by rw [eK]; exact p.at_lt hnb1
        have hbk := block_ok wr p nb hnb1 hnb2
        rw [← eK] at hbk
        unfold PutV.agg at hbk
        have HBK := Lib.hid hbk
        have HP0 := Lib.hid hp0
        have EP := Lib.hid ep
        have EK := Lib.hid eK
        clear hp0 hp1 ep hbk eK
        go_wp2_with fail
        refine HBK.out.mono ?_
        rintro e w6 ⟨rfl, hb6⟩
        have hbw6 : Below wA.heap.size wA w6 := HBR.out.trans (hb6.mono HBR.out.size)
        obtain ⟨xv, hx⟩ := HCELL.out K hKn
        obtain ⟨hr1, hr2⟩ := HBR0.out i hlt
        rw [← EP.out, ← EK.out, ← ES2.out] at hr1 hr2
        rw [hr1] at hx
        have hpq : ∀ W, Below wA.heap.size wA W → PutR1 W bb (off + i * 3) p := fun W hW => HP0.out.below hbb (HCA.out.bel.trans (hW.mono HCA.out.bel.size))
        have hla : ∀ W, Below wA.heap.size wA W → Calls Try.prog 16 #[.slice (some ⟨bb, off, none⟩) L cp, .int .i64 i, .int .i64 nb] W fun e w' => e = .returned (.bool (lastB ps i nb)) ∧ Below W.heap.size W w' := fun W hW =>
          last_ok w W _ L cp i nb ps HP.out EL.out (HCA.out.bel.trans (hW.mono HCA.out.bel.size)) (by rw [← EL.out]; exact hlt) hnb1 hnb2
        have hby : ∀ W, Below wA.heap.size wA W → Calls Try.prog 18 #[p.agg, .int .i64 sz] W (BytesQ W sz p.txt) := fun W hW => bytes_ok W p sz hsz1 (hpq W hW).rd (hpq W hW).ln
        unfold PutV.agg at hby
        obtain ⟨a0, a1, a2, a3, hxr⟩ := hx w6 hbw6
        obtain ⟨Ax, cx, exv⟩ := hxr.slice
        obtain ⟨n9, en9⟩ : ∃ n9, n9 = (readX s2 K).length := ⟨_, rfl⟩
        rw [← en9] at exv
        subst exv
        have k0 := (hpq w6 hbw6).c0
        have k1 := (hpq w6 hbw6).c1
        have k2 := (hpq w6 hbw6).c2
        have HX := Lib.hid hx
        have HPQ := Lib.hid hpq
        have HLA := Lib.hid hla
        have HBY := Lib.hid hby
        have HB := Lib.hid hbw6
        clear hx hpq hla hby hb6 hbw6 en9 hr1 hxr HBK
        obtain ⟨lb, elb⟩ : ∃ lb, lb = lastB ps i nb := ⟨_, rfl⟩
        rw [← elb] at hr2 HLA
        clear elb
        have hss : ∀ W, Below wA.heap.size wA W → (fun w' => w'.cell? ⟨w5.heap.size, 0, none⟩ = some (.slice (some ⟨gB, 0, none⟩) nb q1) ∧ w'.cell? ⟨w5.heap.size, 1, none⟩ = some (.slice (some ⟨gE, 0, none⟩) nb q2) ∧ w'.cell? ⟨gE, K, none⟩ = some (.int .i64 0) ∧ w'.cell? ⟨gB, K, none⟩ = some (.slice Ax n9 cx) ∧ w'.cell? ⟨bb, off + i * 3, none⟩ = some (.int .i64 p.blk) ∧ w'.cell? ⟨bb, off + i * 3 + 1, none⟩ = some p.tv ∧ w'.cell? ⟨bb, off + i * 3 + 2, none⟩ = some (.bool p.past)) W := fun W hW => by
          obtain ⟨g0, g1, g2, g3, _⟩ := HX.out W hW
          exact ⟨g0, g1, g2, g3, (HPQ.out W hW).c0, (HPQ.out W hW).c1, (HPQ.out W hW).c2⟩
        have HSS := Lib.hid hss
        clear hss a0 a1 a2 a3 k0 k1 k2
        cases lb
        · clear hr2 HBY
          go_wp2_with fail
          refine wp_region_held_drew (S := (fun w' => w'.cell? ⟨w5.heap.size, 0, none⟩ = some (.slice (some ⟨gB, 0, none⟩) nb q1) ∧ w'.cell? ⟨w5.heap.size, 1, none⟩ = some (.slice (some ⟨gE, 0, none⟩) nb q2) ∧ w'.cell? ⟨gE, K, none⟩ = some (.int .i64 0) ∧ w'.cell? ⟨gB, K, none⟩ = some (.slice Ax n9 cx) ∧ w'.cell? ⟨bb, off + i * 3, none⟩ = some (.int .i64 p.blk) ∧ w'.cell? ⟨bb, off + i * 3 + 1, none⟩ = some p.tv ∧ w'.cell? ⟨bb, off + i * 3 + 2, none⟩ = some (.bool p.past))) (by kernel_rfl) ?hSa (fun hHeld => ?hGoa)
          case hSa => exact HSS.out _ (by first | exact HB.out | exact HB.out.drew)
          refine wpAnyH_take (i := 0) (oi := ({ dst := some 57, op := Go.Op.fieldAddr 35 (Go.Operand.tmp 16) 1, type := 0, pos := "outright.go:182", after := #[], guard := none } : Go.Oper)) (v := ?v0) rfl (by kernel_rfl) (by kernel_rfl) (by kernel_rfl) (fun _ _ _ h => h) (Or.inl ⟨by rfl, ?hy0⟩) (by assumption) ?hGo0
          case hy0 => (intro w hSw; (try dsimp only at hSw); go_simp; try with_reducible rfl)
          try simp only [Act.put, List.setIfInBounds_toArray, List.set_cons_zero, List.set_cons_succ]
          refine wpAnyH_take (i := 1) (oi := ({ dst := some 58, op := Go.Op.load 33 (Go.Operand.tmp 57), type := 33, pos := "outright.go:182", after := #[{ on := 0, ground := Go.Ground.data }], guard := none } : Go.Oper)) (v := ?v1) rfl (by kernel_rfl) (by kernel_rfl) (by kernel_rfl) (fun _ _ _ h => h) (Or.inl ⟨by rfl, ?hy1⟩) (by assumption) ?hGo1
          case hy1 => (intro w hSw; (try dsimp only at hSw); go_simp; try with_reducible rfl)
          try simp only [Act.put, List.setIfInBounds_toArray, List.set_cons_zero, List.set_cons_succ]
          refine wpAnyH_take (i := 2) (oi := ({ dst := some 59, op := Go.Op.move (Go.Operand.tmp 18), type := 3, pos := "outright.go:182", after := #[], guard := none } : Go.Oper)) (v := ?v2) rfl (by kernel_rfl) (by kernel_rfl) (by kernel_rfl) (fun _ _ _ h => h) (Or.inl ⟨by rfl, ?hy2⟩) (by assumption) ?hGo2
          case hy2 => (intro w hSw; (try dsimp only at hSw); go_simp; try with_reducible rfl)
          try simp only [Act.put, List.setIfInBounds_toArray, List.set_cons_zero, List.set_cons_succ]
          refine wpAnyH_take (i := 3) (oi := ({ dst := some 60, op := Go.Op.indexAddr 33 (Go.Operand.tmp 58) (Go.Operand.tmp 59), type := 0, pos := "outright.go:182", after := #[{ on := 1, ground := Go.Ground.data }, { on := 2, ground := Go.Ground.data }], guard := none } : Go.Oper)) (v := ?v3) rfl (by kernel_rfl) (by kernel_rfl) (by kernel_rfl) (fun _ _ _ h => h) (Or.inl ⟨by rfl, ?hy3⟩) (by assumption) ?hGo3
          case hy3 => (intro w hSw; (try dsimp only at hSw); go_simp; try with_reducible rfl)
          try simp only [Act.put, List.setIfInBounds_toArray, List.set_cons_zero, List.set_cons_succ]
          refine wpAnyH_take (i := 4) (oi := ({ dst := some 61, op := Go.Op.load 3 (Go.Operand.tmp 60), type := 3, pos := "outright.go:182", after := #[{ on := 3, ground := Go.Ground.data }], guard := none } : Go.Oper)) (v := ?v4) rfl (by kernel_rfl) (by kernel_rfl) (by kernel_rfl) (fun _ _ _ h => h) (Or.inl ⟨by rfl, ?hy4⟩) (by assumption) ?hGo4
          case hy4 => (intro w hSw; (try dsimp only at hSw); go_simp; try with_reducible rfl)
          try simp only [Act.put, List.setIfInBounds_toArray, List.set_cons_zero, List.set_cons_succ]
          refine wpAnyH_take (i := 5) (oi := ({ dst := some 62, op := Go.Op.binOp Go.BinOp.neq 3 (Go.Operand.tmp 61) (Go.Operand.const (Go.Value.int Go.IntKind.i64 0)) 3, type := 4, pos := "outright.go:182", after := #[{ on := 4, ground := Go.Ground.data }], guard := none } : Go.Oper)) (v := ?v5) rfl (by kernel_rfl) (by kernel_rfl) (by kernel_rfl) (fun _ _ _ h => h) (Or.inl ⟨by rfl, ?hy5⟩) (by assumption) ?hGo5
          case hy5 => (intro w hSw; (try dsimp only at hSw); go_simp; try with_reducible rfl)
          try simp only [Act.put, List.setIfInBounds_toArray, List.set_cons_zero, List.set_cons_succ]
          refine wpAnyH_take (i := 6) (oi := ({ dst := some 63, op := Go.Op.move (Go.Operand.tmp 62), type := 4, pos := "outright.go:182", after := #[{ on := 5, ground := Go.Ground.data }], guard := none } : Go.Oper)) (v := ?v6) rfl (by kernel_rfl) (by kernel_rfl) (by kernel_rfl) (fun _ _ _ h => h) (Or.inl ⟨by rfl, ?hy6⟩) (by assumption) ?hGo6
          case hy6 => (intro w hSw; (try dsimp only at hSw); go_simp; try with_reducible rfl)
          try simp only [Act.put, List.setIfInBounds_toArray, List.set_cons_zero, List.set_cons_succ]
          refine wpAnyH_take (i := 7) (oi := ({ dst := some 64, op := Go.Op.move (Go.Operand.tmp 3), type := 23, pos := "outright.go:182", after := #[{ on := 6, ground := Go.Ground.guard }], guard := some (6, false) } : Go.Oper)) (v := ?v7) rfl (by kernel_rfl) (by kernel_rfl) (by kernel_rfl) (fun _ _ _ h => h) (Or.inl ⟨by rfl, ?hy7⟩) (by assumption) ?hGo7
          case hy7 => (intro w hSw; (try dsimp only at hSw); go_simp; try with_reducible rfl)
          try simp only [Act.put, List.setIfInBounds_toArray, List.set_cons_zero, List.set_cons_succ]
          refine wpAnyH_take (i := 8) (oi := ({ dst := some 65, op := Go.Op.move (Go.Operand.tmp 17), type := 3, pos := "outright.go:182", after := #[{ on := 6, ground := Go.Ground.guard }], guard := some (6, false) } : Go.Oper)) (v := ?v8) rfl (by kernel_rfl) (by kernel_rfl) (by kernel_rfl) (fun _ _ _ h => h) (Or.inl ⟨by rfl, ?hy8⟩) (by assumption) ?hGo8
          case hy8 => (intro w hSw; (try dsimp only at hSw); go_simp; try with_reducible rfl)
          try simp only [Act.put, List.setIfInBounds_toArray, List.set_cons_zero, List.set_cons_succ]
          refine wpAnyH_take (i := 9) (oi := ({ dst := some 66, op := Go.Op.move (Go.Operand.tmp 0), type := 3, pos := "outright.go:182", after := #[{ on := 6, ground := Go.Ground.guard }], guard := some (6, false) } : Go.Oper)) (v := ?v9) rfl (by kernel_rfl) (by kernel_rfl) (by kernel_rfl) (fun _ _ _ h => h) (Or.inl ⟨by rfl, ?hy9⟩) (by assumption) ?hGo9
          case hy9 => (intro w hSw; (try dsimp only at hSw); go_simp; try with_reducible rfl)
          try simp only [Act.put, List.setIfInBounds_toArray, List.set_cons_zero, List.set_cons_succ]
          refine wpAnyH_ready (rs := [10]) (by kernel_rfl) (by simp) ?hGr10
          refine AllReadyH.cons (o := ({ dst := some 67, op := Go.Op.call { callee := Go.Callee.value (Go.Operand.func 16), args := #[Go.Operand.tmp 64, Go.Operand.tmp 65, Go.Operand.tmp 66], argTypes := #[23, 3, 3] }, type := 4, pos := "outright.go:182", after := #[{ on := 7, ground := Go.Ground.data }, { on := 8, ground := Go.Ground.data }, { on := 9, ground := Go.Ground.data }, { on := 6, ground := Go.Ground.chain }, { on := 6, ground := Go.Ground.guard }], guard := some (6, false) } : Go.Oper)) rfl (fun K hK => ?hGc10) AllReadyH.nil
          go_simp
          (go_at_call 16; refine (HLA.out _ ?hh).mono ?_; (case hh => first | exact HB.out | exact HB.out.drew); rintro e wq ⟨rfl, hbq⟩; (first | have HB := Lib.hid (HB.out.trans (hbq.mono HB.out.size)) | have HB := Lib.hid (HB.out.trans ((below_of_drew hbq).mono HB.out.size))); clear hbq)
          refine hK.out _ _ ?hS10 (fun hHeld => ?hGk10)
          case hS10 => exact HSS.out _ (by first | exact HB.out | exact HB.out.drew)
          clear hK K
          try simp only [Act.put, List.setIfInBounds_toArray, List.set_cons_zero, List.set_cons_succ]
          refine wpAnyH_take (i := 11) (oi := ({ dst := some 68, op := Go.Op.move (Go.Operand.tmp 67), type := 4, pos := "outright.go:182", after := #[{ on := 10, ground := Go.Ground.data }, { on := 10, ground := Go.Ground.chain }, { on := 6, ground := Go.Ground.guard }], guard := some (6, false) } : Go.Oper)) (v := ?v11) rfl (by kernel_rfl) (by kernel_rfl) (by kernel_rfl) (fun _ _ _ h => h) (Or.inl ⟨by rfl, ?hy11⟩) (by assumption) ?hGo11
          case hy11 => (intro w hSw; (try dsimp only at hSw); go_simp; try with_reducible rfl)
          try simp only [Act.put, List.setIfInBounds_toArray, List.set_cons_zero, List.set_cons_succ]
          refine wpAnyH_take (i := 12) (oi := ({ dst := some 69, op := Go.Op.fieldAddr 35 (Go.Operand.tmp 16) 0, type := 0, pos := "outright.go:182", after := #[{ on := 11, ground := Go.Ground.guard }], guard := some (11, true) } : Go.Oper)) (v := undef) rfl (by kernel_rfl) (by kernel_rfl) (by kernel_rfl) (fun _ _ _ h => h) (Or.inr ⟨by rfl, rfl⟩) (by assumption) ?hGo12
          try simp only [Act.put, List.setIfInBounds_toArray, List.set_cons_zero, List.set_cons_succ]
          refine wpAnyH_take (i := 13) (oi := ({ dst := some 70, op := Go.Op.load 32 (Go.Operand.tmp 69), type := 32, pos := "outright.go:182", after := #[{ on := 12, ground := Go.Ground.data }, { on := 11, ground := Go.Ground.guard }], guard := some (11, true) } : Go.Oper)) (v := undef) rfl (by kernel_rfl) (by kernel_rfl) (by kernel_rfl) (fun _ _ _ h => h) (Or.inr ⟨by rfl, rfl⟩) (by assumption) ?hGo13
          try simp only [Act.put, List.setIfInBounds_toArray, List.set_cons_zero, List.set_cons_succ]
          refine wpAnyH_take (i := 14) (oi := ({ dst := some 71, op := Go.Op.move (Go.Operand.tmp 18), type := 3, pos := "outright.go:182", after := #[{ on := 11, ground := Go.Ground.guard }], guard := some (11, true) } : Go.Oper)) (v := undef) rfl (by kernel_rfl) (by kernel_rfl) (by kernel_rfl) (fun _ _ _ h => h) (Or.inr ⟨by rfl, rfl⟩) (by assumption) ?hGo14
          try simp only [Act.put, List.setIfInBounds_toArray, List.set_cons_zero, List.set_cons_succ]
          refine wpAnyH_take (i := 15) (oi := ({ dst := some 72, op := Go.Op.indexAddr 32 (Go.Operand.tmp 70) (Go.Operand.tmp 71), type := 0, pos := "outright.go:182", after := #[{ on := 13, ground := Go.Ground.data }, { on := 14, ground := Go.Ground.data }, { on := 11, ground := Go.Ground.guard }], guard := some (11, true) } : Go.Oper)) (v := undef) rfl (by kernel_rfl) (by kernel_rfl) (by kernel_rfl) (fun _ _ _ h => h) (Or.inr ⟨by rfl, rfl⟩) (by assumption) ?hGo15
          try simp only [Act.put, List.setIfInBounds_toArray, List.set_cons_zero, List.set_cons_succ]
          refine wpAnyH_take (i := 16) (oi := ({ dst := some 73, op := Go.Op.load 24 (Go.Operand.tmp 72), type := 24, pos := "outright.go:182", after := #[{ on := 15, ground := Go.Ground.data }, { on := 11, ground := Go.Ground.guard }], guard := some (11, true) } : Go.Oper)) (v := undef) rfl (by kernel_rfl) (by kernel_rfl) (by kernel_rfl) (fun _ _ _ h => h) (Or.inr ⟨by rfl, rfl⟩) (by assumption) ?hGo16
          try simp only [Act.put, List.setIfInBounds_toArray, List.set_cons_zero, List.set_cons_succ]
          refine wpAnyH_take (i := 17) (oi := ({ dst := some 74, op := Go.Op.move (Go.Operand.tmp 3), type := 23, pos := "outright.go:182", after := #[{ on := 11, ground := Go.Ground.guard }], guard := some (11, true) } : Go.Oper)) (v := undef) rfl (by kernel_rfl) (by kernel_rfl) (by kernel_rfl) (fun _ _ _ h => h) (Or.inr ⟨by rfl, rfl⟩) (by assumption) ?hGo17
          try simp only [Act.put, List.setIfInBounds_toArray, List.set_cons_zero, List.set_cons_succ]
          refine wpAnyH_take (i := 18) (oi := ({ dst := some 75, op := Go.Op.move (Go.Operand.tmp 17), type := 3, pos := "outright.go:182", after := #[{ on := 11, ground := Go.Ground.guard }], guard := some (11, true) } : Go.Oper)) (v := undef) rfl (by kernel_rfl) (by kernel_rfl) (by kernel_rfl) (fun _ _ _ h => h) (Or.inr ⟨by rfl, rfl⟩) (by assumption) ?hGo18
          try simp only [Act.put, List.setIfInBounds_toArray, List.set_cons_zero, List.set_cons_succ]
          refine wpAnyH_take (i := 19) (oi := ({ dst := some 76, op := Go.Op.indexAddr 23 (Go.Operand.tmp 74) (Go.Operand.tmp 75), type := 0, pos := "outright.go:182", after := #[{ on := 17, ground := Go.Ground.data }, { on := 18, ground := Go.Ground.data }, { on := 11, ground := Go.Ground.guard }], guard := some (11, true) } : Go.Oper)) (v := undef) rfl (by kernel_rfl) (by kernel_rfl) (by kernel_rfl) (fun _ _ _ h => h) (Or.inr ⟨by rfl, rfl⟩) (by assumption) ?hGo19
          try simp only [Act.put, List.setIfInBounds_toArray, List.set_cons_zero, List.set_cons_succ]
          refine wpAnyH_take (i := 20) (oi := ({ dst := some 77, op := Go.Op.load 38 (Go.Operand.tmp 76), type := 38, pos := "outright.go:182", after := #[{ on := 19, ground := Go.Ground.data }, { on := 11, ground := Go.Ground.guard }], guard := some (11, true) } : Go.Oper)) (v := undef) rfl (by kernel_rfl) (by kernel_rfl) (by kernel_rfl) (fun _ _ _ h => h) (Or.inr ⟨by rfl, rfl⟩) (by assumption) ?hGo20
          try simp only [Act.put, List.setIfInBounds_toArray, List.set_cons_zero, List.set_cons_succ]
          refine wpAnyH_take (i := 21) (oi := ({ dst := some 78, op := Go.Op.move (Go.Operand.tmp 1), type := 3, pos := "outright.go:182", after := #[{ on := 11, ground := Go.Ground.guard }], guard := some (11, true) } : Go.Oper)) (v := undef) rfl (by kernel_rfl) (by kernel_rfl) (by kernel_rfl) (fun _ _ _ h => h) (Or.inr ⟨by rfl, rfl⟩) (by assumption) ?hGo21
          try simp only [Act.put, List.setIfInBounds_toArray, List.set_cons_zero, List.set_cons_succ]
          refine wpAnyH_take (i := 22) (oi := ({ dst := some 79, op := Go.Op.call { callee := Go.Callee.value (Go.Operand.func 18), args := #[Go.Operand.tmp 77, Go.Operand.tmp 78], argTypes := #[38, 3] }, type := 24, pos := "outright.go:182", after := #[{ on := 20, ground := Go.Ground.data }, { on := 21, ground := Go.Ground.data }, { on := 11, ground := Go.Ground.chain }, { on := 11, ground := Go.Ground.guard }], guard := some (11, true) } : Go.Oper)) (v := undef) rfl (by kernel_rfl) (by kernel_rfl) (by kernel_rfl) (fun _ _ _ h => h) (Or.inr ⟨by rfl, rfl⟩) (by assumption) ?hGo22
          try simp only [Act.put, List.setIfInBounds_toArray, List.set_cons_zero, List.set_cons_succ]
          refine wpAnyH_take (i := 23) (oi := ({ dst := some 80, op := Go.Op.call { callee := Go.Callee.value (Go.Operand.func 17), args := #[Go.Operand.tmp 73, Go.Operand.tmp 79], argTypes := #[24, 24] }, type := 4, pos := "outright.go:182", after := #[{ on := 16, ground := Go.Ground.data }, { on := 22, ground := Go.Ground.data }, { on := 22, ground := Go.Ground.chain }, { on := 11, ground := Go.Ground.guard }], guard := some (11, true) } : Go.Oper)) (v := undef) rfl (by kernel_rfl) (by kernel_rfl) (by kernel_rfl) (fun _ _ _ h => h) (Or.inr ⟨by rfl, rfl⟩) (by assumption) ?hGo23
          try simp only [Act.put, List.setIfInBounds_toArray, List.set_cons_zero, List.set_cons_succ]
          refine wpAnyH_take (i := 24) (oi := ({ dst := some 81, op := Go.Op.unOp Go.UnOp.not 4 (Go.Operand.tmp 80), type := 4, pos := "outright.go:182", after := #[{ on := 23, ground := Go.Ground.data }, { on := 11, ground := Go.Ground.guard }], guard := some (11, true) } : Go.Oper)) (v := undef) rfl (by kernel_rfl) (by kernel_rfl) (by kernel_rfl) (fun _ _ _ h => h) (Or.inr ⟨by rfl, rfl⟩) (by assumption) ?hGo24
          try simp only [Act.put, List.setIfInBounds_toArray, List.set_cons_zero, List.set_cons_succ]
          refine wpAnyH_take (i := 25) (oi := ({ dst := some 82, op := Go.Op.pick (Go.Operand.tmp 68) (Go.Operand.tmp 81) (Go.Operand.const (Go.Value.bool false)), type := 4, pos := "outright.go:182", after := #[{ on := 11, ground := Go.Ground.data }, { on := 24, ground := Go.Ground.data }, { on := 6, ground := Go.Ground.guard }], guard := some (6, false) } : Go.Oper)) (v := ?v25) rfl (by kernel_rfl) (by kernel_rfl) (by kernel_rfl) (fun _ _ _ h => h) (Or.inl ⟨by rfl, ?hy25⟩) (by assumption) ?hGo25
          case hy25 => (intro w hSw; (try dsimp only at hSw); go_simp; try with_reducible rfl)
          try simp only [Act.put, List.setIfInBounds_toArray, List.set_cons_zero, List.set_cons_succ]
          refine wpAnyH_take (i := 26) (oi := ({ dst := some 83, op := Go.Op.pick (Go.Operand.tmp 63) (Go.Operand.const (Go.Value.bool true)) (Go.Operand.tmp 82), type := 4, pos := "outright.go:182", after := #[{ on := 6, ground := Go.Ground.data }, { on := 25, ground := Go.Ground.data }], guard := none } : Go.Oper)) (v := ?v26) rfl (by kernel_rfl) (by kernel_rfl) (by kernel_rfl) (fun _ _ _ h => h) (Or.inl ⟨by rfl, ?hy26⟩) (by assumption) ?hGo26
          case hy26 => (intro w hSw; (try dsimp only at hSw); go_simp; try with_reducible rfl)
          try simp only [Act.put, List.setIfInBounds_toArray, List.set_cons_zero, List.set_cons_succ]
          refine wpAnyH_done (by kernel_rfl) ?hGz _
          all_goals
            go_wp2_with fail
            go_roundw
            case rel => exact ⟨i + 1, by omega, by go_num, HB.out⟩
            case measure => simp [intOf] <;> omega
        · have hx9 := hr2 rfl
          rw [hx9] at HX
          clear hr2 hx9
          go_wp2_with fail
          go_region_held3 (fun w' => w'.cell? ⟨w5.heap.size, 0, none⟩ = some (.slice (some ⟨gB, 0, none⟩) nb q1) ∧ w'.cell? ⟨w5.heap.size, 1, none⟩ = some (.slice (some ⟨gE, 0, none⟩) nb q2) ∧ w'.cell? ⟨gE, K, none⟩ = some (.int .i64 0) ∧ w'.cell? ⟨gB, K, none⟩ = some (.slice Ax n9 cx) ∧ w'.cell? ⟨bb, off + i * 3, none⟩ = some (.int .i64 p.blk) ∧ w'.cell? ⟨bb, off + i * 3 + 1, none⟩ = some p.tv ∧ w'.cell? ⟨bb, off + i * 3 + 2, none⟩ = some (.bool p.past)) (exact HSS.out _ (by first | exact HB.out | exact HB.out.drew))
            (first
              | (go_at_call 16; refine (HLA.out _ ?hh).mono ?_; (case hh => first | exact HB.out | exact HB.out.drew); rintro e wq ⟨rfl, hbq⟩; (first | have HB := Lib.hid (HB.out.trans (hbq.mono HB.out.size)) | have HB := Lib.hid (HB.out.trans ((below_of_drew hbq).mono HB.out.size))); clear hbq)
              | (go_at_call 18; refine (HBY.out _ ?hh).mono ?_; (case hh => first | exact HB.out | exact HB.out.drew); rintro e wq ⟨B9, rfl, hB9, hrow9, hbq⟩; (first | have HB := Lib.hid (HB.out.trans (hbq.mono HB.out.size)) | have HB := Lib.hid (HB.out.trans ((below_of_drew hbq).mono HB.out.size))); clear hbq hB9; have hsm := sameB_ok _ _ _ _ wq (HX.out wq HB.out).2.2.2.2 (hrow9.rd (padF p.txt sz) sz (by rw [padF_len]; exact Nat.le_refl _) (by rw [padF_len]; exact Nat.le_refl _) (fun i hi => rfl)) (by rw [padF_len]; unfold maxLen; omega) (by rw [padF_len]; unfold maxLen; omega); rw [padF_len, show decide (padF p.txt sz = padF p.txt sz) = true from decide_eq_true rfl] at hsm; have HSM := Lib.hid hsm; clear hrow9 hsm)
              | (go_at_call 17; refine HSM.out.mono ?_; rintro e w9 ⟨m9, rfl, hw9⟩; have HB := Lib.hid (show Below wA.heap.size wA w9 by rw [hw9]; exact below_drewN HB.out m9); clear hw9))
          all_goals
            go_wp2_with fail
            go_roundw
            case rel => exact ⟨i + 1, by omega, by go_num, HB.out⟩
            case measure => simp [intOf] <;> omega
      · obtain rfl : L = i := by omega
        have hcur6 := HCA.out.below HBR.out
        obtain ⟨sB, esB⟩ : ∃ sB, sB = withC0 s2 c1 := ⟨_, rfl⟩
        rw [← esB] at hcur6
        have hl : Live sB := by rw [esB]; exact HL2.out
        have hca : ∀ k, sB.ca k = [] := fun k => by rw [esB]; exact HCA2.out k
        have hnB : sB.nb = nb := by rw [esB]; exact HN2.out
        have hal : Alike s2 sB := by rw [esB]; exact withC0_alike _ _
        have hcr := crash_ok O3 wr d sB _ ks hcur6.rep (hcur6.rd HK.out) HKB.out HKL.out (fun k => by rw [hca k]; simp)
        rw [crash_again sB ks hca hl] at hcr
        have HC6 := Lib.hid hcur6
        have HCR := Lib.hid hcr
        have HLB := Lib.hid hl
        have HCAB := Lib.hid hca
        have HNB := Lib.hid hnB
        have HAL := Lib.hid hal
        clear hcur6 hcr hl hca hnB hal esB
        go_wp2_with fail
        refine HCR.out.mono ?_
        rintro e w7 ⟨rfl, hst7⟩
        obtain ⟨O7, hcur7, hO7, hon7⟩ := HC6.out.step hst7
        have hse7 := seen_ok O7 w7 d sB hcur7.rep (fun k => by rw [HCAB.out k]; simp)
        rw [HNB.out] at hse7
        have HC7 := Lib.hid hcur7
        have HO7 := Lib.hid hO7
        have HON7 := Lib.hid hon7
        have HSE7 := Lib.hid hse7
        clear hst7 hcur7 hO7 hon7 hse7 HCR
        go_wp2_with fail
        refine HSE7.out.mono ?_
        rintro e w8 ⟨bv8, ev8, c8, rfl, hsv8, hon8, hd8⟩
        rw [HNB.out] at hsv8
        obtain ⟨Vs8, hV8, _⟩ := hsv8.b
        obtain ⟨gB8, q8, rfl, _, _⟩ := own_at hV8 (by omega)
        obtain ⟨gE8, q9, rfl, _, _⟩ := own_at hsv8.e (by omega)
        have hcur8 := HC7.out.same hon8 hd8
        obtain ⟨wB, ewB⟩ : ∃ wB, wB = w8.alloc (.cells #[.slice (some ⟨gB8, 0, none⟩) nb q8, .slice (some ⟨gE8, 0, none⟩) nb q9] 35) := ⟨_, rfl⟩
        have hbB : Below w8.heap.size w8 wB := by rw [ewB]; exact (Below.refl _ _).alloc (Nat.le_refl _) _
        have hblB : Blk wB w8.heap.size 35 #[.slice (some ⟨gB8, 0, none⟩) nb q8, .slice (some ⟨gE8, 0, none⟩) nb q9] := by rw [ewB]; exact Blk.new _ _ _
        have hszB : wB.heap.size = w8.heap.size + 1 := by rw [ewB]; simp
        have hcurB := hcur8.below hbB
        obtain ⟨sC, esC⟩ : ∃ sC, sC = withC0 sB c8 := ⟨_, rfl⟩
        rw [← esC] at hcurB
        have hlC : Live sC := by rw [esC]; exact HLB.out
        have hcaC : ∀ k, sC.ca k = [] := fun k => by rw [esC]; exact HCAB.out k
        have hnC : sC.nb = nb := by rw [esC]; exact HNB.out
        have halC : Alike sB sC := by rw [esC]; exact withC0_alike _ _
        have hcr8 := crash_ok O7 wB d sC _ ms hcurB.rep (hcurB.rd HM.out) HMB.out HML.out (fun k => by rw [hcaC k]; simp)
        rw [crash_again sC ms hcaC hlC] at hcr8
        have EWB := Lib.hid ewB
        have HSV8 := Lib.hid hsv8
        have HON8 := Lib.hid hon8
        have HBB := Lib.hid hbB
        have HBLB := Lib.hid hblB
        have HSZB := Lib.hid hszB
        have HCB := Lib.hid hcurB
        have HCR8 := Lib.hid hcr8
        have HCAC := Lib.hid hcaC
        have HNC := Lib.hid hnC
        have HALC := Lib.hid halC
        clear hV8 hsv8 hon8 hd8 hcur8 hbB hblB hszB hcurB hlC hcaC hnC halC hcr8 ewB esC HSE7
        go_wp2_with fail
        rw [← EWB.out]
        refine HCR8.out.mono ?_
        rintro e w9 ⟨rfl, hst9⟩
        obtain ⟨O9, hcur9, hO9, hon9⟩ := HCB.out.step hst9
        have hse9 := seen_ok O9 w9 d sC hcur9.rep (fun k => by rw [HCAC.out k]; simp)
        rw [HNC.out] at hse9
        have HC9 := Lib.hid hcur9
        have HO9 := Lib.hid hO9
        have HON9 := Lib.hid hon9
        have HSE9 := Lib.hid hse9
        clear hst9 hcur9 hO9 hon9 hse9 HCR8 EWB
        go_wp2_with fail
        refine HSE9.out.mono ?_
        rintro e w10 ⟨bv10, ev10, c10, rfl, hsv10, hon10, hd10⟩
        rw [HNC.out] at hsv10
        obtain ⟨Vs10, hV10, _⟩ := hsv10.b
        obtain ⟨gB10, q10, rfl, _, _⟩ := own_at hV10 (by omega)
        obtain ⟨gE10, q11, rfl, _, _⟩ := own_at hsv10.e (by omega)
        have hcur10 := HC9.out.same hon10 hd10
        obtain ⟨wC, ewC⟩ : ∃ wC, wC = w10.alloc (.cells #[.slice (some ⟨gB10, 0, none⟩) nb q10, .slice (some ⟨gE10, 0, none⟩) nb q11] 35) := ⟨_, rfl⟩
        have hbC : Below w10.heap.size w10 wC := by rw [ewC]; exact (Below.refl _ _).alloc (Nat.le_refl _) _
        have hblC : Blk wC w10.heap.size 35 #[.slice (some ⟨gB10, 0, none⟩) nb q10, .slice (some ⟨gE10, 0, none⟩) nb q11] := by rw [ewC]; exact Blk.new _ _ _
        have hszC : wC.heap.size = w10.heap.size + 1 := by rw [ewC]; simp
        -- what only the disk's own blocks have turned
        have z1 := HBR.out.size
        have z2 := HON7.out.size
        have z3 := HON8.out.size
        have z4 := HSZB.out
        have z5 := HON9.out.size
        have z6 := hon10.size
        have z7 := HSZA.out
        have z8 := L35.out
        have o3 := HLT3.out
        have o7 : ∀ b, O7 b → b < w7.heap.size := fun b hb => HC7.out.rep.lt hb
        have o9 : ∀ b, O9 b → b < w9.heap.size := fun b hb => HC9.out.rep.lt hb
        have h7C : OnlyP O7 w8 wC := by
          have a1 : OnlyP O7 w8 w9 := (OnlyP.ofBelow HBB.out).then (HON9.out)
          have a2 : OnlyP O7 w8 w10 := a1.trans hon10 (fun k hk => (HO9.out k hk).elim .inl (fun h => .inr (by omega)))
          exact a2.then (OnlyP.ofBelow hbC)
        have h3C : OnlyP O3 wA wC := by
          have a1 : OnlyP O3 wA w7 := (OnlyP.ofBelow HBR.out).then HON7.out
          have a2 : OnlyP O3 wA w8 := a1.trans HON8.out (fun k hk => (HO7.out k hk).elim .inl (fun h => .inr (by omega)))
          exact a2.trans h7C (fun k hk => (HO7.out k hk).elim .inl (fun h => .inr (by omega)))
        have sA := HSVA.out.only h3C (fun b hb _ hc => by have := o3 b hc; omega)
        have sB' := HSV8.out.only h7C (fun b hb _ hc => by have := o7 b hc; omega)
        have sC' := hsv10.below hbC
        have bA : Blk wC w5.heap.size 35 #[.slice (some ⟨gB, 0, none⟩) nb q1, .slice (some ⟨gE, 0, none⟩) nb q2] := (h3C.block _ (by omega) (fun hc => by have := o3 _ hc; omega)).trans HBLA.out
        have bB : Blk wC w8.heap.size 35 #[.slice (some ⟨gB8, 0, none⟩) nb q8, .slice (some ⟨gE8, 0, none⟩) nb q9] := by
          have a1 : OnlyP O7 wB w10 := HON9.out.trans hon10 (fun k hk => (HO9.out k hk).elim .inl (fun h => .inr h))
          exact ((a1.then (OnlyP.ofBelow hbC)).block _ (by omega) (fun hc => by have := o7 _ hc; omega)).trans HBLB.out
        have hwf2 := HC6.out.rep.wf
        have hlen : ∀ j, j < nb → (readX sB j).length ≤ 1024 := fun j hj => readX_len hwf2 HCAB.out j (by rw [HNB.out]; exact hj)
        have hlen2 : ∀ j, j < nb → (readX s2 j).length ≤ 1024 := fun j hj => by rw [← HAL.out.readX]; exact hlen j hj
        have hs1 := sameSeen_ok _ _ wC _ _ _ _ nb _ _ _ _ sA sB' hnb2 hlen2 (fun j _ => (HAL.out.readX j).symm) (fun j _ => (HAL.out.readE j).symm)
        have hs2 : ∀ W, Below wC.heap.size wC W → Calls Try.prog 20 #[.agg #[.slice (some ⟨gB8, 0, none⟩) nb q8, .slice (some ⟨gE8, 0, none⟩) nb q9], .agg #[.slice (some ⟨gB10, 0, none⟩) nb q10, .slice (some ⟨gE10, 0, none⟩) nb q11]] W fun e w' => e = .returned (.bool true) ∧ Below W.heap.size W w' := fun W hW =>
          sameSeen_ok _ _ W _ _ _ _ nb _ _ _ _ (sB'.below hW) (sC'.below hW) hnb2 hlen (fun j _ => (HALC.out.readX j).symm) (fun j _ => (HALC.out.readE j).symm)
        have hcl : ∀ W, Below wC.heap.size wC W → W.cell? ⟨w8.heap.size, 0, none⟩ = some (.slice (some ⟨gB8, 0, none⟩) nb q8) ∧ W.cell? ⟨w8.heap.size, 1, none⟩ = some (.slice (some ⟨gE8, 0, none⟩) nb q9) ∧ W.cell? ⟨w10.heap.size, 0, none⟩ = some (.slice (some ⟨gB10, 0, none⟩) nb q10) ∧ W.cell? ⟨w10.heap.size, 1, none⟩ = some (.slice (some ⟨gE10, 0, none⟩) nb q11) := fun W hW =>
          ⟨(bB.below hW (by omega)).cell 0, (bB.below hW (by omega)).cell 1, (hblC.below hW (by omega)).cell 0, (hblC.below hW (by omega)).cell 1⟩
        have hfin : ∀ W, Below wC.heap.size wC W → Q (.returned (.bool true)) W := fun W hW => by
          rw [EQ.out]
          exact ⟨rfl, ((hcur10.below hbC).below hW).bel⟩
        have k0 : wC.cell? ⟨w5.heap.size, 0, none⟩ = some (.slice (some ⟨gB, 0, none⟩) nb q1) := bA.cell 0
        have k1 : wC.cell? ⟨w5.heap.size, 1, none⟩ = some (.slice (some ⟨gE, 0, none⟩) nb q2) := bA.cell 1
        obtain ⟨k2, k3, k4, k5⟩ := hcl wC (Below.refl _ _)
        have EWC := Lib.hid ewC
        have HS1 := Lib.hid hs1
        have HS2 := Lib.hid hs2
        have HCL := Lib.hid hcl
        have HF := Lib.hid hfin
        rw [ewC] at k0 k1 k2 k3 k4 k5
        clear hV10 hsv10 hon10 hd10 hcur10 hbC hblC hszC z1 z2 z3 z4 z5 z6 z7 z8 o3 o7 o9 h7C h3C sA sB' sC' bA bB hwf2 hlen hlen2 hs1 hs2 hcl hfin ewC HSE9
        go_wp2_with fail
        rw [← EWC.out]
        refine HS1.out.mono ?_
        rintro e w12 ⟨rfl, hb12⟩
        obtain ⟨j2, j3, j4, j5⟩ := HCL.out w12 hb12
        have HS12 := Lib.hid (HS2.out w12 hb12)
        have HB12 := Lib.hid hb12
        clear hb12 HS1 HS2 k0 k1 k2 k3 k4 k5
        go_wp2_with fail
        refine HS12.out.mono ?_
        rintro e w13 ⟨rfl, hb13⟩
        have HF13 := Lib.hid (HF.out w13 (HB12.out.trans (hb13.mono HB12.out.size)))
        clear hb13 HF HS12
        go_wp2_with fail
        first | exact HF13.out | (go_ret; exact HF13.out)
  · have hus := usable_ok w nb sz
    rw [usableB_no hu] at hus
    have HUS := Lib.hid hus
    have HF := Lib.hid (show Q (.returned (.bool true)) w by rw [eQ]; exact ⟨rfl, Below.refl _ _⟩)
    clear hus hu ho hp hk hm eQ
    go_enter Try.func3, Try.ntmps3
    go_wp2_with (go_at_call 10; with_reducible refine HUS.out.mono ?_; rintro e w' ⟨rfl, rfl⟩)
    first | exact HF.out | (go_ret; exact HF.out)
end Go.Proofs.Ytigfcoibbmndpaa
