/- Is a write the last one to its block: last. -/
import Derived.Test.YtigfcoibbmndpaaLwK
import Derived.Outline
import Derived.Deep.RegionWith
import Derived.Deep.Cut
namespace Go.Proofs.Ytigfcoibbmndpaa
open Go.RowKit
open Go.ChangeMaps
set_option linter.unusedVariables false
set_option linter.unusedSimpArgs false
theorem below_of_drew {C : Nat} {w w' : World} (h : Below C w.drew w') : Below C w w' := ⟨h.os, h.tape, h.output, h.size, h.block⟩
theorem lastB_yes {ps : List PutV} {i nb : Nat} (h : ∀ t, i < t → t < ps.length → (ps.getD t p0).at nb ≠ (ps.getD i p0).at nb) : lastB ps i nb = true := by
  unfold lastB
  rw [List.all_eq_true]
  intro q hq
  obtain ⟨t, ht, e⟩ := List.mem_iff_getElem.1 hq
  rw [List.length_drop] at ht
  have h1 := h (i + 1 + t) (by omega) (by omega)
  rw [List.getElem_drop] at e
  have e2 : ps.getD (i + 1 + t) p0 = q := by rw [List.getD_eq_getElem?_getD, List.getElem?_eq_getElem (by omega)]; exact e
  rw [e2] at h1
  simpa using h1
theorem lastB_no {ps : List PutV} {i nb t : Nat} (h1 : i < t) (h2 : t < ps.length) (h : (ps.getD t p0).at nb = (ps.getD i p0).at nb) : lastB ps i nb = false := by
  cases hb : lastB ps i nb
  · rfl
  · exfalso
    unfold lastB at hb
    rw [List.all_eq_true] at hb
    have := hb (ps.getD t p0) (by
      rw [List.mem_iff_getElem]
      refine ⟨t - (i + 1), by rw [List.length_drop]; omega, ?_⟩
      rw [List.getElem_drop, List.getD_eq_getElem?_getD, List.getElem?_eq_getElem h2]
      simp only [Option.getD_some]
      congr 1
      omega)
    simp at this
    exact this h
set_option maxHeartbeats 2000000 in
set_option maxRecDepth 100000 in
theorem last_ok (w0 w : World) (A : Option Addr) (L c i nb : Nat) (ps : List PutV) (hv : PutsR w0 (.slice A L c) ps) (hL : L = ps.length) (hb : Below w0.heap.size w0 w) (hi : i < ps.length) (h1 : 1 ≤ nb) (h2 : nb ≤ 8192) :
    Calls Try.prog 16 #[.slice A L c, .int .i64 i, .int .i64 nb] w fun e w' => e = .returned (.bool (lastB ps i nb)) ∧ Below w.heap.size w w' := by
  obtain ⟨Q, eQ⟩ : ∃ Q : Ending → World → Prop, Q = fun e w' => e = .returned (.bool (lastB ps i nb)) ∧ Below w.heap.size w w' := ⟨_, rfl⟩
  rw [← eQ]
  have EQ := Lib.hid eQ
  obtain ⟨bb, off, rfl, hbb, hpi, _⟩ := hv.at hb hi
  have hb64 : L * 40 ≤ 140737488351232 := by rw [hL]; exact hv.1
  have HV := Lib.hid hv
  have HB0 := Lib.hid hb
  have HL := Lib.hid hL
  obtain ⟨pi, epi⟩ : ∃ pi, pi = ps.getD i p0 := ⟨_, rfl⟩
  rw [← epi] at hpi
  have HPI := Lib.hid hpi
  have EPI := Lib.hid epi
  have hbki := fun w => block_ok w pi nb h1 h2
  unfold PutV.agg at hbki
  have HBI := Lib.hid hbki
  rw [← hL] at hi
  clear eQ hv hb hL hpi epi hbki
  go_enter Try.func16, Try.ntmps16
  go_wp2_with fail
  go_loopw [7] (fun b wr => ∃ j : Nat, i < j ∧ j ≤ L ∧ b = .int .i64 j ∧ (∀ t, i < t → t < j → (ps.getD t p0).at nb ≠ pi.at nb) ∧ Below w.heap.size w wr) (fun b _ => L - (intOf b).toNat)
  case atStart => exact ⟨i + 1, by omega, by omega, by go_num, fun t a b => by omega, Below.refl _ _⟩
  case round =>
    obtain ⟨j, hj, hjL, rfl, hall, hbel⟩ := hrel
    have HALL := Lib.hid hall
    have HBEL := Lib.hid hbel
    have HB := Lib.hid (HB0.out.trans (hbel.mono HB0.out.size))
    clear hall hbel
    by_cases hlt : j < L
    · obtain ⟨bb2, off2, e2, _, hpj, _⟩ := HV.out.at HB.out (i := j) (by rw [← HL.out]; exact hlt)
      simp only [Option.some.injEq, Addr.mk.injEq] at e2
      obtain ⟨rfl, rfl, _⟩ := e2
      obtain ⟨pj, epj⟩ : ∃ pj, pj = ps.getD j p0 := ⟨_, rfl⟩
      rw [← epj] at hpj
      have HPJ := Lib.hid hpj
      have EPJ := Lib.hid epj
      have hbkj := fun w => block_ok w pj nb h1 h2
      unfold PutV.agg at hbkj
      have HBJ := Lib.hid hbkj
      have hpi2 := HPI.out.below hbb HB.out
      have hpj2 := HPJ.out.below hbb HB.out
      have i0 := hpi2.c0
      have i1 := hpi2.c1
      have i2 := hpi2.c2
      have j0 := hpj2.c0
      have j1 := hpj2.c1
      have j2 := hpj2.c2
      obtain ⟨x, ex⟩ : ∃ x, x = pi.at nb := ⟨_, rfl⟩
      obtain ⟨y, ey⟩ : ∃ y, y = pj.at nb := ⟨_, rfl⟩
      rw [← ex] at HBI
      rw [← ey] at HBJ
      have EX := Lib.hid ex
      have EY := Lib.hid ey
      clear hpj epj hbkj hpi2 hpj2 ex ey
      go_wp2_with fail
      go_region_with (first
        | (go_at_call 15; (first | with_reducible refine (HBI.out _).mono ?_ | with_reducible refine (HBJ.out _).mono ?_); rintro e wq ⟨rfl, hbq⟩; (first | have HB := Lib.hid (HB.out.trans (hbq.mono HB.out.size)) | have HB := Lib.hid (HB.out.trans ((below_of_drew hbq).mono HB.out.size))); (first | have HBEL := Lib.hid (HBEL.out.trans (hbq.mono HBEL.out.size)) | have HBEL := Lib.hid (HBEL.out.trans ((below_of_drew hbq).mono HBEL.out.size))); have hpi2 := HPI.out.below hbb HB.out; have hpj2 := HPJ.out.below hbb HB.out; have i0 := hpi2.c0; have i1 := hpi2.c1; have i2 := hpi2.c2; have j0 := hpj2.c0; have j1 := hpj2.c1; have j2 := hpj2.c2; clear hbq hpi2 hpj2))
      all_goals
        clear i0 i1 i2 j0 j1 j2 HBI HBJ
        by_cases hxy : y = x
        · have hF : Q (.returned (.bool false)) wq := by
            rw [EQ.out]
            refine ⟨?_, HBEL.out⟩
            rw [lastB_no hj (by rw [← HL.out]; exact hlt) (by rw [← EPJ.out, ← EPI.out, ← EX.out, ← EY.out]; exact hxy)]
          have HF := Lib.hid hF
          subst hxy
          clear hF
          go_wp2_with fail
          first | exact HF.out | (go_ret; exact HF.out)
        · have t0 : ((y : Int) == (x : Int)) = false := by simp; omega
          have hall : ∀ t, i < t → t < j + 1 → (ps.getD t p0).at nb ≠ pi.at nb := fun t h1 h2 => by
            by_cases e : t = j
            · rw [e, ← EPJ.out, ← EX.out, ← EY.out]; exact hxy
            · exact HALL.out t h1 (by omega)
          have HALL2 := Lib.hid hall
          clear hall hxy
          go_wp2_with fail
          go_roundw
          case rel => exact ⟨j + 1, by omega, by omega, by go_num, HALL2.out, HBEL.out⟩
          case measure => simp [intOf] <;> omega
    · obtain rfl : L = j := by omega
      have hF : Q (.returned (.bool true)) wr := by
        rw [EQ.out]
        refine ⟨?_, HBEL.out⟩
        rw [lastB_yes (fun t h1 h2 => by rw [← EPI.out]; exact HALL.out t h1 (by rw [HL.out]; exact h2))]
      have HF := Lib.hid hF
      clear hF
      go_wp2_with fail
      first | exact HF.out | (go_ret; exact HF.out)
end Go.Proofs.Ytigfcoibbmndpaa
