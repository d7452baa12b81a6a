/- Runes and bytes; the reader's blanks. -/
import Derived.Test.YtbfebfeliddpnaaDoorOnl
import Derived.Test.YtbfebfeliddpnaaDoorParP
import Derived.Lib.OthersKept
import Derived.Lib.RuneCountTail
import Derived.Laws.RangeAny
import Derived.Outline
namespace Go.Proofs.YtbfebfeliddpnaaDoor
open Go.RowKit
set_option linter.unusedVariables false
set_option linter.unusedSimpArgs false
theorem get_byte (s : ByteArray) (i : Nat) : (s.get! i).toNat = byteAt s i := by
  unfold byteAt
  by_cases h : i < s.size
  · rw [dif_pos h]
    congr 1
    simp [ByteArray.get!, getElem!_pos, h]
    rfl
  · rw [dif_neg h]
    have h2 : ¬ i < s.data.size := h
    show (s.data[i]!).toNat = 0
    rw [getElem!_neg s.data i h2]; rfl
theorem dec_ascii (s : ByteArray) (p : Nat) (h : p < s.size) (ha : byteAt s p < 128) : Utf8.decode s p = (byteAt s p, 1) := by
  rw [byteAt_in s p h] at ha ⊢
  exact decode_ascii s p h ha
theorem dec_high (s : ByteArray) (p : Nat) (h : p < s.size) (ha : 128 ≤ byteAt s p) : 128 ≤ (Utf8.decode s p).1 ∧ 1 ≤ (Utf8.decode s p).2 ∧ ∀ j, j < (Utf8.decode s p).2 → p + j < s.size ∧ 128 ≤ byteAt s (p + j) := by
  have h0 := decode_high s p h (by rw [← byteAt_in s p h]; exact ha)
  refine ⟨h0.1, h0.2, ?_⟩
  have one : ∀ j, j < 1 → p + j < s.size ∧ 128 ≤ byteAt s (p + j) := fun j hj => by
    obtain rfl : j = 0 := by omega
    exact ⟨h, ha⟩
  unfold Utf8.decode
  simp only [get_byte, Nat.add_zero]
  rw [if_neg (by omega)]
  split
  · rename_i hc
    simp only [Bool.and_eq_true, decide_eq_true_eq, beq_iff_eq] at hc
    split
    · intro j hj
      have : j = 0 ∨ j = 1 := by simp only at hj; omega
      rcases this with rfl | rfl
      · exact ⟨h, ha⟩
      · exact ⟨by omega, by omega⟩
    · exact one
  · split
    · rename_i hc
      simp only [Bool.and_eq_true, decide_eq_true_eq, beq_iff_eq] at hc
      split
      · intro j hj
        have : j = 0 ∨ j = 1 ∨ j = 2 := by simp only at hj; omega
        rcases this with rfl | rfl | rfl
        · exact ⟨h, ha⟩
        · exact ⟨by omega, by omega⟩
        · exact ⟨by omega, by omega⟩
      · exact one
    · split
      · rename_i hc
        simp only [Bool.and_eq_true, decide_eq_true_eq, beq_iff_eq] at hc
        split
        · intro j hj
          have : j = 0 ∨ j = 1 ∨ j = 2 ∨ j = 3 := by simp only at hj; omega
          rcases this with rfl | rfl | rfl | rfl
          · exact ⟨h, ha⟩
          · exact ⟨by omega, by omega⟩
          · exact ⟨by omega, by omega⟩
          · exact ⟨by omega, by omega⟩
        · exact one
      · exact one
theorem skip_highs (s : ByteArray) : ∀ (n p : Nat), (∀ j, j < n → p + j < s.size ∧ 128 ≤ byteAt s (p + j)) → skip s true p = skip s true (p + n)
  | 0, p, _ => rfl
  | n + 1, p, h => by
    have h0 := h 0 (by omega)
    rw [Nat.add_zero] at h0
    rw [skip_cm s p h0.1, decide_eq_true (by omega), skip_highs s n (p + 1) (fun j hj => by have := h (j + 1) (by omega); rw [show p + 1 + j = p + (j + 1) by omega]; exact this)]
    congr 1; omega
/-- One rune of the text. -/
structure RuneAt (s : ByteArray) (p C wd : Nat) : Prop where
  pos : 1 ≤ wd
  le : p + wd ≤ s.size
  top : C ≤ 2147483647
  low : C < 128 → byteAt s p = C ∧ wd = 1
  high : 128 ≤ C → 128 ≤ byteAt s p
  cm : skip s true p = skip s (decide (C ≠ 10)) (p + wd)
  hash : C = 35 → skip s false p = skip s true (p + wd)
  blank : blankB C = true → skip s false p = skip s false (p + wd)
  stop : C ≠ 35 → blankB C = false → skip s false p = p
theorem blankB_high {c : Nat} (h : 128 ≤ c) : blankB c = false := by
  unfold blankB
  simp only [Bool.or_eq_false_iff, decide_eq_false_iff_not]
  omega
theorem blankB_low {c : Nat} (h : blankB c = true) : c < 128 := by
  unfold blankB at h
  simp only [Bool.or_eq_true, decide_eq_true_eq] at h
  omega
theorem rune_at (s : ByteArray) (p C wd : Nat) (h : p < s.size) (hd : Utf8.decode s p = (C, wd)) : RuneAt s p C wd := by
  have hC := decode_le s p
  rw [hd] at hC
  by_cases ha : byteAt s p < 128
  · have e := dec_ascii s p h ha
    rw [hd] at e
    obtain ⟨rfl, rfl⟩ := Prod.mk.inj e
    exact ⟨Nat.le_refl _, by omega, hC, fun _ => ⟨rfl, rfl⟩, fun h2 => h2, skip_cm s p h, fun e => skip_hash s p h e, fun e => skip_blank s p h e, fun e1 e2 => skip_stop s p h e1 e2⟩
  · obtain ⟨h1, h2, h3⟩ := dec_high s p h (by omega)
    rw [hd] at h1 h2 h3
    dsimp only at h1 h2 h3
    refine ⟨h2, ?_, hC, fun h => by omega, fun _ => by omega, ?_, fun e => by omega, fun e => ?_, fun _ _ => skip_stop s p h (by omega) (blankB_high (by omega))⟩
    · have := (h3 (wd - 1) (by omega)).1; omega
    · rw [decide_eq_true (by omega)]; exact skip_highs s wd p h3
    · rw [blankB_high h1] at e; exact absurd e (by decide)
theorem OnlyP.iterAt {O : Nat → Prop} {w w1 : World} (h : OnlyP O w w1) {k : Nat} (hk : w.heap.size ≤ k) (s : ByteArray) (pos : Nat) : OnlyP O w (w1.iterAt k s pos) :=
  ⟨h.os, h.tape, h.output, by rw [Lib.iterAt_size]; exact h.size, fun j hj hb => (Lib.iterAt_other w1 k j s pos (by omega)).trans (h.block j hj hb)⟩
/-- Block r is a reader of s, at place i. -/
def RdB (w : World) (r : Nat) (s : ByteArray) (i : Nat) : Prop := Blk w r 65 #[.string s, .int .i64 i]
theorem iterPos_of {w : World} {k : Nat} {s : ByteArray} {p : Nat} (h : w.heap[k]? = some (.stringIter s p)) : w.iterPos k = p := by simp [World.iterPos, h]
def BlanksQ (w : World) (r : Nat) (s : ByteArray) (i : Nat) (e : Ending) (w' : World) : Prop := e = .returned (.tuple #[]) ∧ RdB w' r s (skip s false i) ∧ OnlyP (fun b => b = r) w w'
set_option maxHeartbeats 4000000 in
set_option maxRecDepth 100000 in
theorem blanks_ok (w : World) (r : Nat) (s : ByteArray) (i : Nat) (h : RdB w r s i) (hi : i ≤ s.size) (hs : s.size ≤ 65536) :
    Calls Tryd.prog 49 #[.pointer (some ⟨r, 0, none⟩)] w (BlanksQ w r s i) := by
  obtain ⟨Q, eQ⟩ : ∃ Q, Q = BlanksQ w r s i := ⟨_, rfl⟩
  rw [← eQ]
  have EQ := Lib.hid eQ
  have hrl : r < w.heap.size := Blk.lt h
  have c0 : w.cell? ⟨r, 0, none⟩ = some (.string s) := Blk.cell h 0
  have c1 : w.cell? ⟨r, 1, none⟩ = some (.int .i64 i) := Blk.cell h 1
  have H := Lib.hid h
  obtain ⟨n, en⟩ : ∃ n, n = s.size := ⟨_, rfl⟩
  have EN := Lib.hid en
  have hin : i ≤ n := by omega
  have hn : n ≤ 65536 := by omega
  clear eQ h
  go_enter Tryd.func49, Tryd.ntmps49
  go_wp2_with fail
  go_still_tail 9, (by kernel_rfl)
  go_wp2_with fail
  obtain ⟨u, eu⟩ : ∃ u, u = s.extract i s.size := ⟨_, rfl⟩
  obtain ⟨B, eB⟩ : ∃ B, B = w.heap.size := ⟨_, rfl⟩
  obtain ⟨T, eT⟩ : ∃ T, T = skip s false i := ⟨_, rfl⟩
  have hus : u.size = n - i := by rw [eu, ByteArray.size_extract]; omega
  have hiter : (w.drew.iter u 0).heap[B]? = some (.stringIter u 0) := by rw [eB]; exact World.iter_heap w.drew u 0
  have hr1 : RdB (w.drew.iter u 0) r s i := H.out.alloc _
  have ho1 : OnlyP (fun b => b = r) w (w.drew.iter u 0) := (OnlyP.refl _ _).drew.alloc _
  have hrB : r ≠ B := by omega
  have hBw : w.heap.size ≤ B := by omega
  have hdec : ∀ k, Utf8.decode u k = Utf8.decode s (i + k) := fun k => by rw [eu]; exact Lib.tail_decode s i k
  rw [← eu, ← eB]
  have EU := Lib.hid eu
  have ET := Lib.hid eT
  have HUS := Lib.hid hus
  have HIT := Lib.hid hiter
  have HR1 := Lib.hid hr1
  have HO1 := Lib.hid ho1
  have HDEC := Lib.hid hdec
  have hun : u.size ≤ 65536 := by omega
  clear eu eB eT hus hiter hr1 ho1 hdec c0 c1 en H
  go_loopw [2, 3, 4] (fun cm _ _ wr => ∃ (c : Bool) (k : Nat), cm = .bool c ∧ wr.heap[B]? = some (.stringIter u k) ∧ k ≤ u.size ∧ skip s c (i + k) = T ∧ RdB wr r s i ∧ OnlyP (fun b => b = r) w wr) (fun _ _ _ wr => u.size - wr.iterPos B)
  case atStart => exact ⟨false, 0, rfl, HIT.out, Nat.zero_le _, ET.out.symm, HR1.out, HO1.out⟩
  case round =>
    obtain ⟨cm, k, rfl, hit, hk, hsk, hr, ho⟩ := hrel
    have hpos0 := iterPos_of hit
    by_cases hp : k < u.size
    · have hnx : ∀ ty, (Instr.next (.pointer (some ⟨B, 0, none⟩)) true ty).run Tryd.prog wr = _ := fun ty => Lib.run_next_any_at wr B u k ty hit hp
      obtain ⟨C, wd, hcw⟩ : ∃ C wd, Utf8.decode u k = (C, wd) := ⟨_, _, rfl⟩
      have hru := rune_at s (i + k) C wd (by have := HUS.out; have := EN.out; omega) (by rw [← HDEC.out k]; exact hcw)
      simp only [hcw] at hnx
      have hit2 := Lib.iterAt_heap wr B u k (k + wd) hit
      have ho2 := ho.iterAt hBw u (k + wd)
      have hr2 : RdB (wr.iterAt B u (k + wd)) r s i := (Lib.iterAt_other wr B r u (k + wd) hrB).trans hr
      obtain ⟨W1, hW1⟩ : ∃ W1, W1 = wr.iterAt B u (k + wd) := ⟨_, rfl⟩
      rw [← hW1] at hnx hit2 ho2 hr2
      have hp1 := iterPos_of hit2
      have c0 : W1.cell? ⟨r, 0, none⟩ = some (.string s) := Blk.cell hr2 0
      have c1 : W1.cell? ⟨r, 1, none⟩ = some (.int .i64 i) := Blk.cell hr2 1
      have hkw : k + wd ≤ u.size := by have := hru.le; have := HUS.out; have := EN.out; omega
      have hpw := hru.pos
      have HRU := Lib.hid hru
      have HIT2 := Lib.hid hit2
      have HO2 := Lib.hid ho2
      have HR2 := Lib.hid hr2
      have HSK := Lib.hid hsk
      have HP0 := Lib.hid hpos0
      have HP1 := Lib.hid hp1
      have htop := hru.top
      clear hW1 hit hr ho hru hit2 ho2 hr2 hsk hpos0 hp1 hcw HIT HR1 HO1
      cases cm
      · by_cases h35 : C = 35
        · have hf := HRU.out.hash h35
          rw [HSK.out] at hf
          have HF := Lib.hid hf
          clear hf
          subst h35
          go_wp2_with fail
          go_roundw
          case rel => exact ⟨true, k + wd, rfl, HIT2.out, hkw, by rw [← Nat.add_assoc]; exact HF.out.symm, HR2.out, HO2.out⟩
          case measure => rw [HP0.out, HP1.out]; omega
        · cases hbl : blankB C
          · have hst := HRU.out.stop h35 hbl
            rw [HSK.out] at hst
            have f1 : W1.frozen? ⟨r, 1, none⟩ = false := Blk.free HR2.out 1
            have hfin : BlanksQ w r s i (.returned (.tuple #[])) (W1.setCell ⟨r, 1, none⟩ (.int .i64 ((i : Int) + (k : Int)))) := by
              refine ⟨rfl, ?_, (HO2.out.set (p := ⟨r, 1, none⟩) (.inl rfl) _)⟩
              rw [← ET.out, hst, show (i : Int) + (k : Int) = ((i + k : Nat) : Int) by omega]
              exact Blk.set HR2.out 1 _
            have HFIN := Lib.hid (show Q _ _ by rw [EQ.out]; exact hfin)
            obtain ⟨g1, g2, g3, g4⟩ : ((C : Int) != 32) = true ∧ ((C : Int) != 9) = true ∧ ((C : Int) != 10) = true ∧ ((C : Int) != 13) = true := by
              unfold blankB at hbl
              simp only [Bool.or_eq_false_iff, decide_eq_false_iff_not] at hbl
              refine ⟨?_, ?_, ?_, ?_⟩ <;> (simp; omega)
            have g0 : ((C : Int) == 35) = false := by simp; omega
            clear hst hfin hbl h35
            go_wp2_with fail
            go_end0
            exact HFIN.out
          · have hb2 := HRU.out.blank hbl
            rw [HSK.out] at hb2
            have HF := Lib.hid hb2
            have hc4 : C = 32 ∨ C = 9 ∨ C = 10 ∨ C = 13 := by
              unfold blankB at hbl
              simp only [Bool.or_eq_true, decide_eq_true_eq] at hbl
              omega
            clear hb2 hbl h35
            rcases hc4 with rfl | rfl | rfl | rfl
            all_goals
              go_wp2_with fail
              go_roundw
              case rel => exact ⟨false, k + wd, rfl, HIT2.out, hkw, by rw [← Nat.add_assoc]; exact HF.out.symm, HR2.out, HO2.out⟩
              case measure => rw [HP0.out, HP1.out]; omega
      · have hcm := HRU.out.cm
        rw [HSK.out] at hcm
        have HF := Lib.hid hcm
        clear hcm
        by_cases h10 : C = 10
        · have HF2 := Lib.hid (show skip s false (i + (k + wd)) = T by have := HF.out; rw [decide_eq_false (by omega)] at this; rw [← Nat.add_assoc]; exact this.symm)
          clear HF
          subst h10
          go_wp2_with fail
          go_roundw
          case rel => exact ⟨false, k + wd, rfl, HIT2.out, hkw, HF2.out, HR2.out, HO2.out⟩
          case measure => rw [HP0.out, HP1.out]; omega
        · have HF2 := Lib.hid (show skip s true (i + (k + wd)) = T by have := HF.out; rw [decide_eq_true h10] at this; rw [← Nat.add_assoc]; exact this.symm)
          have g0 : ((C : Int) != 10) = true := by simp; omega
          clear HF h10
          go_wp2_with fail
          go_roundw
          case rel => exact ⟨true, k + wd, rfl, HIT2.out, hkw, HF2.out, HR2.out, HO2.out⟩
          case measure => rw [HP0.out, HP1.out]; omega
    · obtain rfl : k = u.size := by omega
      have hnx : ∀ ty, (Instr.next (.pointer (some ⟨B, 0, none⟩)) true ty).run Tryd.prog wr = _ := fun ty => Lib.run_next_end_at wr B u u.size ty hit hp
      have c0 : wr.cell? ⟨r, 0, none⟩ = some (.string s) := Blk.cell hr 0
      have c1 : wr.cell? ⟨r, 1, none⟩ = some (.int .i64 i) := Blk.cell hr 1
      have f1 : wr.frozen? ⟨r, 1, none⟩ = false := Blk.free hr 1
      rw [skip_end s cm (i + u.size) (by have := HUS.out; have := EN.out; omega)] at hsk
      have hfin : ∀ m, Q (.returned (.tuple #[])) ((wr.drewN m).setCell ⟨r, 1, none⟩ (.int .i64 (s.size : Nat))) := by
        intro m
        rw [EQ.out]
        refine ⟨rfl, ?_, ((ho.drewN m).set (p := ⟨r, 1, none⟩) (.inl rfl) _)⟩
        rw [← ET.out, ← hsk]
        exact Blk.set (Blk.drewN hr m) 1 _
      have HFIN := Lib.hid hfin
      clear hit hsk hr ho hpos0 hp hfin
      go_wp2_with fail
      go_end0
      first | exact HFIN.out 0 | exact HFIN.out _
end Go.Proofs.YtbfebfeliddpnaaDoor
