/- The writes are made: puts. -/
import Derived.Test.YtigfcoibbmndpaaLwE
import Derived.Outline
namespace Go.Proofs.Ytigfcoibbmndpaa
open Go.RowKit
open Go.ChangeMaps
set_option linter.unusedVariables false
set_option linter.unusedSimpArgs false
def p0 : PutV := ⟨0, .slice none 0 0, [], false⟩
/-- A Put's words in the world. -/
structure PutR1 (w : World) (b off : Nat) (p : PutV) : Prop where
  c0 : w.cell? ⟨b, off, none⟩ = some (.int .i64 p.blk)
  c1 : w.cell? ⟨b, off + 1, none⟩ = some p.tv
  c2 : w.cell? ⟨b, off + 2, none⟩ = some (.bool p.past)
  rd : Rd .u8 w p.tv p.txt
  bl : BytesL p.txt
  ln : p.txt.length ≤ 9223372036854775807
theorem PutR1.below {w w1 : World} {b off : Nat} {p : PutV} (h : PutR1 w b off p) (hb : b < w.heap.size) (hw : Below w.heap.size w w1) : PutR1 w1 b off p :=
  have hc : ∀ i, w1.cell? ⟨b, i, none⟩ = w.cell? ⟨b, i, none⟩ := fun i => cell_of_heap (hw.block b hb) i
  ⟨(hc _).trans h.c0, (hc _).trans h.c1, (hc _).trans h.c2, h.rd.below hw, h.bl, h.ln⟩
def PutsR (w : World) (v : Value) (ps : List PutV) : Prop :=
  ps.length * 40 ≤ 140737488351232 ∧ ((ps = [] ∧ ∃ A c, v = .slice A 0 c) ∨ ∃ b off c, v = .slice (some ⟨b, off, none⟩) ps.length c ∧ 0 < ps.length ∧ ps.length ≤ c ∧ b < w.heap.size ∧ ∀ i, i < ps.length → PutR1 w b (off + i * 3) (ps.getD i p0))
theorem PutsR.slice {w : World} {v : Value} {ps : List PutV} (h : PutsR w v ps) : ∃ A c, v = .slice A ps.length c := by
  rcases h.2 with ⟨rfl, A, c, rfl⟩ | ⟨b, off, c, rfl, _⟩
  · exact ⟨A, c, rfl⟩
  · exact ⟨_, c, rfl⟩
theorem PutsR.at {w w1 : World} {A : Option Addr} {n c : Nat} {ps : List PutV} (h : PutsR w (.slice A n c) ps) (hb : Below w.heap.size w w1) {i : Nat} (hi : i < ps.length) : ∃ b off, A = some ⟨b, off, none⟩ ∧ b < w.heap.size ∧ PutR1 w b (off + i * 3) (ps.getD i p0) ∧ PutR1 w1 b (off + i * 3) (ps.getD i p0) := by
  rcases h.2 with ⟨rfl, _⟩ | ⟨b, off, c, e, g1, g2, g3, g4⟩
  · simp at hi
  · simp only [Value.slice.injEq] at e
    exact ⟨b, off, e.1, g3, g4 i hi, (g4 i hi).below g3 hb⟩
/-- A disk with its power on and no fuse. -/
def Live (s : DSt) : Prop := s.off = false ∧ s.fused = false
theorem Live.step {s : DSt} (h : Live s) : stepS s = s ∧ stepB s = true := by
  unfold stepS stepB
  rw [h.1, h.2]
  exact ⟨rfl, rfl⟩
def putS (s : DSt) (p : PutV) : DSt := if p.past = true then thruS s (p.at s.nb) (padF p.txt s.sz) else pushS s (p.at s.nb) (padF p.txt s.sz)
theorem putS_live {s : DSt} (h : Live s) (p : PutV) : Live (putS s p) := by unfold putS; split <;> exact h
theorem putS_grows (s : DSt) (p : PutV) : Grows s (putS s p) := by
  unfold putS; split
  · refine ⟨rfl, rfl, fun k => ?_⟩
    show (dropC s.ca _ k).length ≤ _
    unfold dropC; split
    · simp
    · exact Nat.le_succ _
  · refine ⟨rfl, rfl, fun k => ?_⟩
    show (pushC s.ca _ _ k).length ≤ _
    unfold pushC; split
    · rename_i h; rw [h]; simp
    · exact Nat.le_succ _
def putsS (s : DSt) (ps : List PutV) : DSt := ps.foldl putS s
theorem putsS_succ (s : DSt) (ps : List PutV) (i : Nat) (h : i < ps.length) : putsS s (ps.take (i + 1)) = putS (putsS s (ps.take i)) (ps.getD i p0) := by
  unfold putsS
  rw [List.take_add_one, List.foldl_append, List.getD_eq_getElem?_getD, List.getElem?_eq_getElem h]
  rfl
theorem putsS_live {s : DSt} (h : Live s) (ps : List PutV) : Live (putsS s ps) := by
  induction ps generalizing s with
  | nil => exact h
  | cons p ps ih => exact ih (putS_live h p)
theorem putsS_grows (s : DSt) (ps : List PutV) : (putsS s ps).nb = s.nb ∧ (putsS s ps).sz = s.sz ∧ ∀ k, ((putsS s ps).ca k).length ≤ (s.ca k).length + ps.length := by
  induction ps generalizing s with
  | nil => exact ⟨rfl, rfl, fun k => Nat.le_refl _⟩
  | cons p ps ih =>
    have h := putS_grows s p
    obtain ⟨h1, h2, h3⟩ := ih (putS s p)
    refine ⟨h1.trans h.1, h2.trans h.2.1, fun k => ?_⟩
    have := h.2.2 k
    have := h3 k
    rw [List.length_cons]
    show ((putsS (putS s p) ps).ca k).length ≤ _
    omega
theorem write_live {s : DSt} (h : Live s) {k : Nat} (hk : k < s.nb) {xs : List Int} (hl : xs.length = s.sz) : writeE s k xs.length = 0 ∧ writeS s k xs = pushS s k xs ∧ throughS s k xs = thruS s k xs := by
  have hw := writeS_in hk hl
  obtain ⟨h1, h2⟩ := h.step
  refine ⟨?_, ?_, ?_⟩
  · unfold writeE; rw [hw, if_neg (by simp), if_pos h2]
  · unfold writeS; rw [hw, if_neg (by simp), if_pos h2, h1, show ((k : Int)).toNat = k by omega]
  · unfold throughS; rw [hw, if_neg (by simp), if_pos h2, h1, show ((k : Int)).toNat = k by omega]
def PutsQ (O : Nat → Prop) (w : World) (d : Nat) (s : DSt) (e : Ending) (w' : World) : Prop := e = .returned (.bool true) ∧ DStep O w w' d s
set_option maxHeartbeats 4000000 in
set_option maxRecDepth 100000 in
theorem puts_ok (O : Nat → Prop) (w0 w : World) (d : Nat) (s : DSt) (v : Value) (ps : List PutV) (h : DRep O w d s) (hb : Below w0.heap.size w0 w) (hO : ∀ b, O b → w0.heap.size ≤ b) (hv : PutsR w0 v ps) (hlive : Live s) (hca : ∀ k, (s.ca k).length = 0) :
    Calls Try.prog 12 #[.pointer (some ⟨d, 0, none⟩), .int .i64 s.nb, .int .i64 s.sz, v] w (PutsQ O w d (putsS s ps)) := by
  obtain ⟨Q, eQ⟩ : ∃ Q, Q = PutsQ O w d (putsS s ps) := ⟨_, rfl⟩
  rw [← eQ]
  have EQ := Lib.hid eQ
  obtain ⟨A, cp, rfl⟩ := hv.slice
  obtain ⟨L, eL⟩ : ∃ L, L = ps.length := ⟨_, rfl⟩
  have hL : L * 24 ≤ 140737488351232 := by rw [eL]; have := hv.1; omega
  have hnb1 := h.wf.nb1
  have hnb2 := h.wf.nb2
  have hsz1 := h.wf.sz1
  obtain ⟨nb, enb⟩ : ∃ nb, nb = s.nb := ⟨_, rfl⟩
  obtain ⟨sz, esz⟩ : ∃ sz, sz = s.sz := ⟨_, rfl⟩
  have HV := Lib.hid hv
  have EL := Lib.hid eL
  have HD := Lib.hid h
  have HB := Lib.hid hb
  have HO := Lib.hid hO
  have HLV := Lib.hid hlive
  have HCA := Lib.hid hca
  have ENB := Lib.hid enb
  have ESZ := Lib.hid esz
  rw [← eL]
  rw [← enb] at hnb1 hnb2 ⊢
  rw [← esz] at hsz1 ⊢
  clear eQ hv eL h hb hO hlive hca enb esz
  go_enter Try.func12, Try.ntmps12
  go_wp2_with fail
  go_loopw [9, 10, 11, 12] (fun b _ _ _ wr => ∃ i : Nat, i ≤ L ∧ b = .int .i64 i ∧ DStep O w wr d (putsS s (ps.take i))) (fun b _ _ _ _ => L - (intOf b).toNat)
  case atStart => exact ⟨0, Nat.zero_le _, rfl, OnlyP.refl _ _, O, HD.out, fun b hb => .inl hb⟩
  case round =>
    obtain ⟨i, hi, rfl, hst⟩ := hrel
    have HST := Lib.hid hst
    obtain ⟨hon, O2, hdr, hO2⟩ := hst
    have hbr : Below w0.heap.size w0 wr := HB.out.trans (hon.below HB.out.size HO.out)
    have HON := Lib.hid hon
    have HDR := Lib.hid hdr
    have HO2 := Lib.hid hO2
    have HBR := Lib.hid hbr
    clear hon hdr hO2 hbr HD
    by_cases hlt : i < L
    · obtain ⟨bb, off, rfl, hbb, hp0, hp1⟩ := HV.out.at HBR.out (i := i) (by rw [← EL.out]; exact hlt)
      obtain ⟨p, ep⟩ : ∃ p, p = ps.getD i p0 := ⟨_, rfl⟩
      rw [← ep] at hp0 hp1
      have EP := Lib.hid ep
      have k0 := hp1.c0
      have k1 := hp1.c1
      have k2 := hp1.c2
      have hbk := block_ok wr p nb hnb1 hnb2
      have HBK := Lib.hid hbk
      have HP0 := Lib.hid hp0
      unfold PutV.agg at HBK
      clear hbk hp0 hp1 ep
      go_wp2_with fail
      refine HBK.out.mono ?_
      rintro e w2 ⟨rfl, hb2⟩
      have hbw2 : Below w0.heap.size w0 w2 := HBR.out.trans (hb2.mono HBR.out.size)
      have hp2 := HP0.out.below hbb hbw2
      have j0 := hp2.c0
      have j1 := hp2.c1
      have j2 := hp2.c2
      have hby := bytes_ok w2 p sz hsz1 hp2.rd hp2.ln
      have HBY := Lib.hid hby
      unfold PutV.agg at HBY
      have HB2 := Lib.hid hb2
      have HBW2 := Lib.hid hbw2
      clear hby hp2 hb2 hbw2 k0 k1 k2 HBK
      go_wp2_with fail
      refine HBY.out.mono ?_
      rintro e w3 ⟨B3, rfl, hB3, hrow3, hb3⟩
      have hbw3 : Below w0.heap.size w0 w3 := HBW2.out.trans (hb3.mono HBW2.out.size)
      have hp3 := HP0.out.below hbb hbw3
      have i2 := hp3.c2
      have hbwr : Below wr.heap.size wr w3 := HB2.out.trans (hb3.mono HB2.out.size)
      have HRW := Lib.hid hrow3
      have HBWR := Lib.hid hbwr
      clear hbw3 hp3 hb3 hbwr j0 j1 j2 HBY
      obtain ⟨sI, esI⟩ : ∃ sI, sI = putsS s (ps.take i) := ⟨_, rfl⟩
      rw [← esI] at HDR
      obtain ⟨hn1, hn2, hn3⟩ := putsS_grows s (ps.take i)
      rw [← esI] at hn1 hn2 hn3
      have hlv : Live sI := by rw [esI]; exact putsS_live HLV.out _
      have hk : p.at nb < sI.nb := by rw [hn1, ← ENB.out]; exact p.at_lt hnb1
      have hwl := write_live hlv hk (xs := padF p.txt sz) (by rw [padF_len, hn2, ESZ.out])
      have hrn : RdN O2 w3 (.slice (some ⟨B3, 0, none⟩) sz sz) (padF p.txt sz) := by
        refine ⟨?_, fun b off n c he _ hb => ?_⟩
        · have := hrow3.rd (padF p.txt sz) sz (by rw [padF_len]; exact Nat.le_refl _) (by rw [padF_len]; exact Nat.le_refl _) (fun i hi => rfl)
          rw [padF_len] at this; exact this
        · simp only [Value.slice.injEq, Option.some.injEq, Addr.mk.injEq] at he
          have := HDR.out.lt hb
          have := HB2.out.size
          omega
      have hcap : ((sI.ca ((p.at nb : Nat) : Int).toNat).length + 1) * 24 ≤ 200000000000000 := by
        have h1 := hn3 ((p.at nb : Nat) : Int).toNat
        have h2 := HCA.out ((p.at nb : Nat) : Int).toNat
        rw [List.length_take] at h1
        omega
      have hwr := write_ok O2 w3 d sI (p.at nb) _ (padF p.txt sz) (HDR.out.below HBWR.out) hrn hcap
      have hth := through_ok O2 w3 d sI (p.at nb) _ (padF p.txt sz) (HDR.out.below HBWR.out) hrn
      rw [hwl.2.1] at hwr
      rw [hwl.2.2] at hth
      have ESI0 := Lib.hid (show writeE sI (p.at nb) sz = 0 by have := hwl.1; rw [padF_len] at this; exact this)
      have HWR := Lib.hid hwr
      have HTH := Lib.hid hth
      have hend : ∀ w4, DStep O2 w3 w4 d (putS sI p) → DStep O w w4 d (putsS s (ps.take (i + 1))) := fun w4 h4 => by
        rw [putsS_succ s ps i (by rw [← EL.out]; exact hlt), ← EP.out, ← esI]
        exact DStep.comp HON.out HO2.out (DStep.comp (OnlyP.ofBelow HBWR.out) (fun b hb => .inl hb) h4)
      have HE := Lib.hid hend
      have hpn : p.at sI.nb = p.at nb := by rw [hn1, ENB.out]
      have hpz : sI.sz = sz := by rw [hn2, ESZ.out]
      have HPS : Hid ((p.past = true → putS sI p = thruS sI (p.at nb) (padF p.txt sz)) ∧ (p.past = false → putS sI p = pushS sI (p.at nb) (padF p.txt sz))) := Lib.hid ⟨fun h => by unfold putS; rw [if_pos h, hpn, hpz], fun h => by unfold putS; rw [if_neg (by rw [h]; simp), hpn, hpz]⟩
      clear hn1 hn2 hn3 hlv hk hwl hrn hcap hwr hth hend hpn hpz esI hrow3
      cases hpast : p.past
      · rw [hpast] at i2
        have HPP := Lib.hid (HPS.out.2 hpast)
        clear HPS hpast
        go_wp2_with fail
        refine HWR.out.mono ?_
        rintro e w4 ⟨er, rfl, hans, hst4⟩
        obtain rfl : er = .nilIface := by
          rw [padF_len, ESI0.out] at hans
          rcases hans with ⟨h, _⟩ | ⟨_, _, _, h, _⟩
          · exact h
          · exact absurd rfl h
        have hrel := HE.out w4 (by rw [HPP.out]; exact hst4)
        have HREL := Lib.hid hrel
        clear hans hst4 hrel HE HWR HTH
        go_wp2_with fail
        go_roundw
        case rel => exact ⟨i + 1, by omega, by go_num, HREL.out⟩
        case measure => simp [intOf] <;> omega
      · rw [hpast] at i2
        have HPP := Lib.hid (HPS.out.1 hpast)
        clear HPS hpast
        go_wp2_with fail
        refine HTH.out.mono ?_
        rintro e w4 ⟨er, rfl, hans, hst4⟩
        obtain rfl : er = .nilIface := by
          rw [padF_len, ESI0.out] at hans
          rcases hans with ⟨h, _⟩ | ⟨_, _, _, h, _⟩
          · exact h
          · exact absurd rfl h
        have hrel := HE.out w4 (by rw [HPP.out]; exact hst4)
        have HREL := Lib.hid hrel
        clear hans hst4 hrel HE HWR HTH
        go_wp2_with fail
        go_roundw
        case rel => exact ⟨i + 1, by omega, by go_num, HREL.out⟩
        case measure => simp [intOf] <;> omega
    · obtain rfl : L = i := by omega
      have hfin : Q (.returned (.bool true)) wr := by
        rw [EQ.out]
        have h1 := HST.out
        rw [List.take_of_length_le (by rw [← EL.out]; exact Nat.le_refl _)] at h1
        exact ⟨rfl, h1⟩
      have HF := Lib.hid hfin
      clear hfin
      go_wp2_with fail
      first | exact HF.out | (go_ret; exact HF.out)
end Go.Proofs.Ytigfcoibbmndpaa
