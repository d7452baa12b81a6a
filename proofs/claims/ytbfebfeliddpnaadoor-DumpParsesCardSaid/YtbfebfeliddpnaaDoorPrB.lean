/- The reader's token. -/
import Derived.Test.YtbfebfeliddpnaaDoorPrA
import Derived.Outline
import Derived.Deep.CutRange
namespace Go.Proofs.YtbfebfeliddpnaaDoor
open Go.RowKit
set_option linter.unusedVariables false
set_option linter.unusedSimpArgs false
/-- Given up at that place. -/
def faultE (p : Nat) : Ending := .panicked [{ v := .iface 61 (.int .i64 p), recovered := false }]
def TokQ (w : World) (r : Nat) (s : ByteArray) (t : Tk) (e : Ending) (w' : World) : Prop :=
  OnlyP (fun b => b = r) w w' ∧ if t.goes = true then e = .returned (.tuple #[.string (t.tx s), .int .i64 t.pl]) ∧ RdB w' r s t.en else e = faultE t.pl
theorem extract_one (s : ByteArray) (j : Nat) (h : j < s.size) (hc : byteAt s j = 59) : s.extract j (j + 1) = bSemi := by
  apply ByteArray.ext
  apply Array.ext
  · simp [bSemi]; omega
  · intro i h1 h2
    have hi : i = 0 := by simp [bSemi] at h2; omega
    subst hi
    simp only [ByteArray.data_extract, Array.getElem_extract, bSemi]
    rw [byteAt_in s j h] at hc
    simp only [Nat.add_zero, List.getElem_toArray, List.getElem_cons_zero]
    exact UInt8.toNat_inj.1 hc
set_option maxHeartbeats 4000000 in
set_option maxRecDepth 100000 in
theorem token_ok (w : World) (r : Nat) (s : ByteArray) (i : Nat) (h : RdB w r s i) (hi : i ≤ s.size) (hs : s.size ≤ 65536) :
    Calls Tryd.prog 72 #[.pointer (some ⟨r, 0, none⟩)] w (TokQ w r s (tkOf s i)) := by
  obtain ⟨Q, eQ⟩ : ∃ Q, Q = TokQ w r s (tkOf s i) := ⟨_, rfl⟩
  rw [← eQ]
  have EQ := Lib.hid eQ
  have hbl := blanks_ok w r s i h hi hs
  have hrl : r < w.heap.size := Blk.lt h
  obtain ⟨n, en⟩ : ∃ n, n = s.size := ⟨_, rfl⟩
  obtain ⟨j, ej⟩ : ∃ j, j = skip s false i := ⟨_, rfl⟩
  have hji : i ≤ j := by rw [ej]; exact skip_ge s false i hi
  have hjn : j ≤ n := by rw [ej, en]; exact skip_le s false i hi
  have hjs : j ≤ s.size := by omega
  have EN := Lib.hid en
  have EJ := Lib.hid ej
  have HBL := Lib.hid hbl
  have hn : n ≤ 65536 := by omega
  have HTK := Lib.hid (tkOf_cases s i hi)
  clear eQ h hbl en ej
  go_enter Tryd.func72, Tryd.ntmps72
  go_wp2_with fail
  refine HBL.out.mono ?_
  rintro e w1 ⟨rfl, hr1, ho1⟩
  rw [← EJ.out] at hr1
  have c0 : w1.cell? ⟨r, 0, none⟩ = some (.string s) := Blk.cell hr1 0
  have c1 : w1.cell? ⟨r, 1, none⟩ = some (.int .i64 j) := Blk.cell hr1 1
  obtain ⟨u, eu⟩ : ∃ u, u = s.extract j s.size := ⟨_, rfl⟩
  obtain ⟨B, eB⟩ : ∃ B, B = w1.heap.size := ⟨_, rfl⟩
  have hus : u.size = n - j := by rw [eu, ByteArray.size_extract]; have := EN.out; omega
  have hiter : (w1.iter u 0).heap[B]? = some (.stringIter u 0) := by rw [eB]; exact World.iter_heap w1 u 0
  have hr2 : RdB (w1.iter u 0) r s j := hr1.alloc _
  have ho2 : OnlyP (fun b => b = r) w (w1.iter u 0) := ho1.alloc _
  have hBw : w.heap.size ≤ B := by rw [eB]; exact ho1.size
  have hrB : r ≠ B := by omega
  have hdec : ∀ k, Utf8.decode u k = Utf8.decode s (j + k) := fun k => by rw [eu]; exact Lib.tail_decode s j k
  have EU := Lib.hid eu
  have EB := Lib.hid eB
  have HUS := Lib.hid hus
  have HIT := Lib.hid hiter
  have HR2 := Lib.hid hr2
  have HO2 := Lib.hid ho2
  have HDEC := Lib.hid hdec
  have hun : u.size ≤ 65536 := by omega
  clear HBL hr1 ho1 eu eB hus hiter hr2 ho2 hdec
  go_wp2_with fail
  rw [show s.extract j s.size = u from EU.out.symm, show w1.heap.size = B from EB.out.symm]
  clear c0 c1
  go_loopw [5, 6, 7] (fun nn _ _ wr => ∃ (k : Nat), nn = .int .i64 k ∧ wr.heap[B]? = some (.stringIter u k) ∧ k ≤ u.size ∧ wend s j = wend s (j + k) ∧ (0 < k → wordyB (byteAt s j) = true) ∧ RdB wr r s j ∧ OnlyP (fun b => b = r) w wr) (fun _ _ _ wr => u.size - wr.iterPos B)
  case atStart => exact ⟨0, rfl, HIT.out, Nat.zero_le _, rfl, fun h => absurd h (by omega), HR2.out, HO2.out⟩
  case round =>
    obtain ⟨k, rfl, hit, hk, hwe, hwd, hr, ho⟩ := hrel
    have hpos0 := iterPos_of hit
    have hjk : j + k ≤ n := by have := HUS.out; omega
    clear HIT HR2 HO2
    by_cases hp : k < u.size
    · have hnx : ∀ ty, (Instr.next (.pointer (some ⟨B, 0, none⟩)) true ty).run Tryd.prog wr = _ := fun ty => Lib.run_next_any_at wr B u k ty hit hp
      obtain ⟨C, wd, hcw⟩ : ∃ C wd, Utf8.decode u k = (C, wd) := ⟨_, _, rfl⟩
      have hjk1 : j + k < n := by have := HUS.out; omega
      have hru := rune_at s (j + k) C wd (by have := EN.out; omega) (by rw [← HDEC.out k]; exact hcw)
      simp only [hcw] at hnx
      have hit2 := Lib.iterAt_heap wr B u k (k + wd) hit
      have ho2 := ho.iterAt hBw u (k + wd)
      have hr2 : RdB (wr.iterAt B u (k + wd)) r s j := (Lib.iterAt_other wr B r u (k + wd) hrB).trans hr
      obtain ⟨W1, hW1⟩ : ∃ W1, W1 = wr.iterAt B u (k + wd) := ⟨_, rfl⟩
      rw [← hW1] at hnx hit2 ho2 hr2
      have hp1 := iterPos_of hit2
      have c0 : W1.cell? ⟨r, 0, none⟩ = some (.string s) := Blk.cell hr2 0
      have c1 : W1.cell? ⟨r, 1, none⟩ = some (.int .i64 j) := Blk.cell hr2 1
      have f1 : W1.frozen? ⟨r, 1, none⟩ = false := Blk.free hr2 1
      have htop := hru.top
      have hon : wordyB C = true → wend s j = wend s (j + (k + 1)) ∧ (0 < k + 1 → wordyB (byteAt s j) = true) ∧ wd = 1 := by
        intro hC
        have hlo : C < 128 := by
          unfold wordyB lowB digB at hC
          simp only [Bool.or_eq_true, Bool.and_eq_true, decide_eq_true_eq] at hC
          omega
        obtain ⟨h1, h2⟩ := hru.low hlo
        have h3 := wend_on s (j + k) (by have := EN.out; omega) (by rw [h1]; exact hC)
        refine ⟨by rw [hwe, h3, Nat.add_assoc], fun _ => ?_, h2⟩
        by_cases h0 : k = 0
        · subst h0; rw [Nat.add_zero] at h1; rw [h1]; exact hC
        · exact hwd (by omega)
      have hoff : wordyB C = false → wordyB (byteAt s (j + k)) = false ∧ wend s j = j + k := by
        intro hC
        have h1 : wordyB (byteAt s (j + k)) = false := by
          by_cases hlo : C < 128
          · rw [(hru.low hlo).1]; exact hC
          · have := hru.high (by omega)
            unfold wordyB lowB digB
            simp only [Bool.or_eq_false_iff, Bool.and_eq_false_iff, decide_eq_false_iff_not]
            omega
        exact ⟨h1, by rw [hwe]; exact wend_stop s (j + k) (by have := EN.out; omega) h1⟩
      have hword : wordyB C = false → 0 < k → ∀ m, Q (.returned (.tuple #[.string (s.extract j (j + k)), .int .i64 j])) ((W1.setCell ⟨r, 1, none⟩ (.int .i64 ((j : Int) + (k : Int)))).drewN m) := by
        intro hC h0 m
        rw [EQ.out]
        have h1 := (hoff hC).2
        rcases HTK.out with ⟨j', _, _, e1, e2, e⟩ | ⟨j', _, _, e1, e2, e3, e, _, _⟩ | ⟨j', _, _, e1, e2, e3, e⟩ | ⟨e1, e⟩
        · rw [← EJ.out] at e1; subst e1; have := hwd h0; rw [e2] at this; exact absurd this (by decide)
        · rw [← EJ.out] at e1; subst e1
          rw [e, h1]
          refine ⟨(ho2.set (p := ⟨r, 1, none⟩) (.inl rfl) _).drewN m, ?_⟩
          simp only [Tk.goes, if_true]
          refine ⟨rfl, ?_⟩
          rw [show (j : Int) + (k : Int) = ((j + k : Nat) : Int) by omega]
          exact Blk.set hr2 1 _
        · rw [← EJ.out] at e1; subst e1; have := hwd h0; rw [e3] at this; exact absurd this (by decide)
        · rw [← EJ.out] at e1; have := EN.out; omega
      have hsemi : C = 59 → k = 0 → ∀ m, Q (.returned (.tuple #[.string (s.extract j (j + 1)), .int .i64 j])) ((W1.setCell ⟨r, 1, none⟩ (.int .i64 ((j : Int) + 1))).drewN m) := by
        intro hC h0 m
        subst h0
        rw [EQ.out]
        have h1 := (hru.low (by omega)).1
        rw [Nat.add_zero, hC] at h1
        rcases HTK.out with ⟨j', _, _, e1, e2, e⟩ | ⟨j', _, _, e1, e2, e3, e, _, _⟩ | ⟨j', _, _, e1, e2, e3, e⟩ | ⟨e1, e⟩
        · rw [← EJ.out] at e1; subst e1
          rw [e, extract_one s j (by have := EN.out; omega) h1]
          refine ⟨(ho2.set (p := ⟨r, 1, none⟩) (.inl rfl) _).drewN m, ?_⟩
          simp only [Tk.goes, if_true]
          refine ⟨rfl, ?_⟩
          rw [show (j : Int) + 1 = ((j + 1 : Nat) : Int) by omega]
          exact Blk.set hr2 1 _
        · rw [← EJ.out] at e1; subst e1; exact absurd h1 e2
        · rw [← EJ.out] at e1; subst e1; exact absurd h1 e2
        · rw [← EJ.out] at e1; have := EN.out; omega
      have hbad : wordyB C = false → C ≠ 59 → k = 0 → Q (faultE j) W1 := by
        intro hC hC2 h0
        subst h0
        rw [EQ.out]
        have h1 := (hoff hC).1
        rw [Nat.add_zero] at h1
        have h2 : byteAt s j ≠ 59 := by
          intro h3
          by_cases hlo : C < 128
          · have := (hru.low hlo).1; rw [Nat.add_zero] at this; omega
          · have := hru.high (by omega); rw [Nat.add_zero] at this; omega
        rcases HTK.out with ⟨j', _, _, e1, e2, e⟩ | ⟨j', _, _, e1, e2, e3, e, _, _⟩ | ⟨j', _, _, e1, e2, e3, e⟩ | ⟨e1, e⟩
        · rw [← EJ.out] at e1; subst e1; exact absurd e2 h2
        · rw [← EJ.out] at e1; subst e1; rw [e3] at h1; exact absurd h1 (by decide)
        · rw [← EJ.out] at e1; subst e1; rw [e]; exact ⟨ho2, by simp [Tk.goes, Tk.pl]⟩
        · rw [← EJ.out] at e1; have := EN.out; omega
      have hkw : wd = 1 → k + 1 ≤ u.size := fun _ => by omega
      have HON := Lib.hid hon
      have HWORD := Lib.hid hword
      have HSEMI := Lib.hid hsemi
      have HBAD := Lib.hid hbad
      have HIT2 := Lib.hid hit2
      have HO2 := Lib.hid ho2
      have HR2 := Lib.hid hr2
      have HP0 := Lib.hid hpos0
      have HP1 := Lib.hid hp1
      clear hW1 hit hr ho hru hit2 ho2 hr2 hpos0 hp1 hcw hon hoff hword hsemi hbad hkw hwe hwd
      by_cases hlow : 97 ≤ C ∧ C ≤ 122
      · obtain ⟨ha, hb⟩ := hlow
        have g1 : decide ((C : Int) < 97) = false := decide_eq_false (by omega)
        have g2 : decide ((122 : Int) < C) = false := decide_eq_false (by omega)
        obtain ⟨h1, h2, h3⟩ := HON.out (by unfold wordyB lowB digB; simp only [Bool.or_eq_true, Bool.and_eq_true, decide_eq_true_eq]; omega)
        have H1 := Lib.hid h1
        have H2 := Lib.hid h2
        have H3 := Lib.hid h3
        clear h1 h2 h3
        go_wp2_with fail
        go_roundw
        case rel => exact ⟨k + 1, by go_num, by have := HIT2.out; rw [H3.out] at this; exact this, by omega, H1.out, H2.out, HR2.out, HO2.out⟩
        case measure => rw [HP0.out, HP1.out, H3.out]; omega
      by_cases hdig : 48 ≤ C ∧ C ≤ 57
      · obtain ⟨ha, hb⟩ := hdig
        have g1 : decide ((C : Int) < 97) = true := decide_eq_true (by omega)
        have g2 : decide ((C : Int) < 48) = false := decide_eq_false (by omega)
        have g3 : decide ((57 : Int) < C) = false := decide_eq_false (by omega)
        clear hlow
        obtain ⟨h1, h2, h3⟩ := HON.out (by unfold wordyB lowB digB; simp only [Bool.or_eq_true, Bool.and_eq_true, decide_eq_true_eq]; omega)
        have H1 := Lib.hid h1
        have H2 := Lib.hid h2
        have H3 := Lib.hid h3
        clear h1 h2 h3
        go_wp2_with fail
        go_roundw
        case rel => exact ⟨k + 1, by go_num, by have := HIT2.out; rw [H3.out] at this; exact this, by omega, H1.out, H2.out, HR2.out, HO2.out⟩
        case measure => rw [HP0.out, HP1.out, H3.out]; omega
      by_cases h45 : C = 45
      · subst h45
        clear hlow hdig
        obtain ⟨h1, h2, h3⟩ := HON.out (by decide)
        have H1 := Lib.hid h1
        have H2 := Lib.hid h2
        have H3 := Lib.hid h3
        clear h1 h2 h3
        go_wp2_with fail
        go_roundw
        case rel => exact ⟨k + 1, by go_num, by have := HIT2.out; rw [H3.out] at this; exact this, by omega, H1.out, H2.out, HR2.out, HO2.out⟩
        case measure => rw [HP0.out, HP1.out, H3.out]; omega
      have hno : wordyB C = false := by
        unfold wordyB lowB digB
        simp only [Bool.or_eq_false_iff, Bool.and_eq_false_iff, decide_eq_false_iff_not]
        omega
      have g45 : ((C : Int) != 45) = true := by simp; omega
      have HNO := Lib.hid hno
      clear hno
      by_cases h59 : C = 59
      · subst h59
        clear hlow hdig h45
        by_cases h0 : k = 0
        · have HF := Lib.hid (HSEMI.out rfl h0)
          subst h0
          go_upto_region 14 with (fail)
          obtain ⟨W2, e2⟩ : ∃ W2, W2 = W1.setCell ⟨r, 1, none⟩ (.int .i64 ((j : Int) + 1)) := ⟨_, rfl⟩
          have hr3 : Blk W2 r 65 #[.string s, .int .i64 ((j : Int) + 1)] := by rw [e2]; exact Blk.set HR2.out 1 _
          rw [← e2] at HF ⊢
          clear e2 c0 c1 f1
          have c0 : W2.cell? ⟨r, 0, none⟩ = some (.string s) := hr3.cell 0
          have c1 : W2.cell? ⟨r, 1, none⟩ = some (.int .i64 ((j : Int) + 1)) := hr3.cell 1
          have hj2 : j + 1 ≤ s.size := by have := EN.out; omega
          clear hr3
          go_quiet (fail)
          go_wp2_with fail
          first | exact HF.out _ | (go_ret2; exact HF.out _)
        · have HF := Lib.hid (HWORD.out HNO.out (by omega))
          have k0 : ((k : Int) == 0) = false := by simp; omega
          go_upto_region 14 with (fail)
          obtain ⟨W2, e2⟩ : ∃ W2, W2 = W1.setCell ⟨r, 1, none⟩ (.int .i64 ((j : Int) + (k : Int))) := ⟨_, rfl⟩
          have hr3 : Blk W2 r 65 #[.string s, .int .i64 ((j : Int) + (k : Int))] := by rw [e2]; exact Blk.set HR2.out 1 _
          rw [← e2] at HF ⊢
          clear e2 c0 c1 f1
          have c0 : W2.cell? ⟨r, 0, none⟩ = some (.string s) := hr3.cell 0
          have c1 : W2.cell? ⟨r, 1, none⟩ = some (.int .i64 ((j : Int) + (k : Int))) := hr3.cell 1
          have hj2 : j + k ≤ s.size := by have := EN.out; omega
          clear hr3
          go_quiet (fail)
          go_wp2_with fail
          first | exact HF.out _ | (go_ret2; exact HF.out _)
      · have g59 : ((C : Int) == 59) = false := by simp; omega
        have gx : (decide ((C : Int) < 97) = true ∧ decide ((C : Int) < 48) = true) ∨ (decide ((C : Int) < 97) = true ∧ decide ((C : Int) < 48) = false ∧ decide ((57 : Int) < C) = true) ∨ (decide ((C : Int) < 97) = false ∧ decide ((122 : Int) < C) = true ∧ decide ((C : Int) < 48) = false ∧ decide ((57 : Int) < C) = true) := by
          simp only [decide_eq_true_eq, decide_eq_false_iff_not]; omega
        clear hlow hdig h45
        by_cases h0 : k = 0
        · have HF := Lib.hid (HBAD.out HNO.out h59 h0)
          subst h0
          clear h59
          rcases gx with ⟨x1, x2⟩ | ⟨x1, x2, x3⟩ | ⟨x1, x2, x3, x4⟩
          all_goals
            go_wp2_with fail
            first | exact HF.out | exact ⟨rfl, HF.out⟩
        · have HF := Lib.hid (HWORD.out HNO.out (by omega))
          have k0 : ((k : Int) == 0) = false := by simp; omega
          clear h59 h0
          rcases gx with ⟨x1, x2⟩ | ⟨x1, x2, x3⟩ | ⟨x1, x2, x3, x4⟩
          all_goals
            go_upto_region 14 with (fail)
            obtain ⟨W2, e2⟩ : ∃ W2, W2 = W1.setCell ⟨r, 1, none⟩ (.int .i64 ((j : Int) + (k : Int))) := ⟨_, rfl⟩
            have hr3 : Blk W2 r 65 #[.string s, .int .i64 ((j : Int) + (k : Int))] := by rw [e2]; exact Blk.set HR2.out 1 _
            rw [← e2] at HF ⊢
            clear e2 c0 c1 f1
            have c0 : W2.cell? ⟨r, 0, none⟩ = some (.string s) := hr3.cell 0
            have c1 : W2.cell? ⟨r, 1, none⟩ = some (.int .i64 ((j : Int) + (k : Int))) := hr3.cell 1
            have hj2 : j + k ≤ s.size := by have := EN.out; omega
            clear hr3
            go_quiet (fail)
            go_wp2_with fail
            first | exact HF.out _ | (go_ret2; exact HF.out _)
    · have hku : k = u.size := by omega
      have hnx : ∀ ty, (Instr.next (.pointer (some ⟨B, 0, none⟩)) true ty).run Tryd.prog wr = _ := fun ty => Lib.run_next_end_at wr B u k ty hit hp
      have c0 : wr.cell? ⟨r, 0, none⟩ = some (.string s) := Blk.cell hr 0
      have c1 : wr.cell? ⟨r, 1, none⟩ = some (.int .i64 j) := Blk.cell hr 1
      have f1 : wr.frozen? ⟨r, 1, none⟩ = false := Blk.free hr 1
      have hjks : j + k = s.size := by have := HUS.out; have := EN.out; omega
      rw [hjks, wend_end s s.size (Nat.le_refl _)] at hwe
      have hword : 0 < k → ∀ m, Q (.returned (.tuple #[.string (s.extract j (j + k)), .int .i64 j])) ((wr.setCell ⟨r, 1, none⟩ (.int .i64 ((j : Int) + (k : Int)))).drewN m) := by
        intro h0 m
        rw [EQ.out]
        have h1 := hwd h0
        rcases HTK.out with ⟨j', _, _, e1, e2, e⟩ | ⟨j', _, _, e1, e2, e3, e, _, _⟩ | ⟨j', _, _, e1, e2, e3, e⟩ | ⟨e1, e⟩
        · rw [← EJ.out] at e1; subst e1; rw [e2] at h1; exact absurd h1 (by decide)
        · rw [← EJ.out] at e1; subst e1
          rw [e, hwe]
          refine ⟨(ho.set (p := ⟨r, 1, none⟩) (.inl rfl) _).drewN m, ?_⟩
          simp only [Tk.goes, if_true]
          refine ⟨by rw [hjks]; rfl, ?_⟩
          rw [show (j : Int) + (k : Int) = ((s.size : Nat) : Int) by omega]
          exact Blk.set hr 1 _
        · rw [← EJ.out] at e1; subst e1; rw [e3] at h1; exact absurd h1 (by decide)
        · rw [← EJ.out] at e1; omega
      have hbad : k = 0 → Q (faultE j) wr := by
        intro h0
        rw [EQ.out]
        rcases HTK.out with ⟨j', _, h3, e1, e2, e⟩ | ⟨j', _, h3, e1, e2, e3, e, _, _⟩ | ⟨j', _, h3, e1, e2, e3, e⟩ | ⟨e1, e⟩
        · rw [← EJ.out] at e1; omega
        · rw [← EJ.out] at e1; omega
        · rw [← EJ.out] at e1; omega
        · rw [e]; exact ⟨ho, by simp only [Tk.goes]; rw [show j = s.size by omega]; simp [Tk.pl]⟩
      have HWORD := Lib.hid hword
      have HBAD := Lib.hid hbad
      have HR2 := Lib.hid hr
      have hend : k = u.size := hku
      have HEND := Lib.hid hend
      clear hit hr ho hpos0 hwe hwd hp hword hbad hku hend
      by_cases h0 : k = 0
      · have HF := Lib.hid (HBAD.out h0)
        subst h0
        go_wp2_with fail
        first | exact HF.out | exact ⟨rfl, HF.out⟩
      · have HF := Lib.hid (HWORD.out (by omega))
        have k0 : ((k : Int) == 0) = false := by simp; omega
        clear h0
        go_upto_region 14 with (fail)
        obtain ⟨W2, e2⟩ : ∃ W2, W2 = wr.setCell ⟨r, 1, none⟩ (.int .i64 ((j : Int) + (k : Int))) := ⟨_, rfl⟩
        have hr3 : Blk W2 r 65 #[.string s, .int .i64 ((j : Int) + (k : Int))] := by rw [e2]; exact Blk.set HR2.out 1 _
        rw [← e2] at HF ⊢
        clear e2 c0 c1 f1
        have c0 : W2.cell? ⟨r, 0, none⟩ = some (.string s) := hr3.cell 0
        have c1 : W2.cell? ⟨r, 1, none⟩ = some (.int .i64 ((j : Int) + (k : Int))) := hr3.cell 1
        have hj2 : j + k ≤ s.size := by omega
        clear hr3
        go_quiet (fail)
        go_wp2_with fail
        first | exact HF.out _ | (go_ret2; exact HF.out _)
end Go.Proofs.YtbfebfeliddpnaaDoor
