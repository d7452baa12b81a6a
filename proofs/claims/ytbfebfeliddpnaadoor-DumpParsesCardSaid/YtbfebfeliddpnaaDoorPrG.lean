/- The reader's flags. -/
import Derived.Test.YtbfebfeliddpnaaDoorPrF
import Derived.Outline
namespace Go.Proofs.YtbfebfeliddpnaaDoor
open Go.RowKit
set_option linter.unusedVariables false
set_option linter.unusedSimpArgs false
/-- The listed names of the flags. -/
def FlagTab (w : World) : Prop := BlkG w 0 #[.string (flagName 0), .string (flagName 1), .string (flagName 2), .string (flagName 3)]
theorem FlagTab.cell {w : World} (h : FlagTab w) (i : Nat) (hi : i < 4) : w.cell? ⟨0, i, none⟩ = some (.string (flagName i)) := by
  rw [BlkG.cell h]
  have : i = 0 ∨ i = 1 ∨ i = 2 ∨ i = 3 := by omega
  rcases this with rfl | rfl | rfl | rfl <;> rfl
theorem FlagTab.ne {w : World} (h : FlagTab w) {r : Nat} {T : TypeId} {cs : Array Value} (hr : Blk w r T cs) (hc : cs.size ≠ 4) : 0 ≠ r := by
  rintro rfl
  obtain ⟨t, h⟩ := h
  unfold Blk at h hr
  rw [h] at hr
  simp only [Option.some.injEq, Obj.cells.injEq] at hr
  rw [← hr.1] at hc
  exact hc rfl
theorem FlagTab.only {O : Nat → Prop} {w w1 : World} (h : FlagTab w) (ho : OnlyP O w w1) (hO : ¬ O 0) : FlagTab w1 := let ⟨t, h⟩ := h; ⟨t, (ho.block _ (Blk.lt h) hO).trans h⟩
theorem or_flag (fl i : Nat) (hf : fl < 16) (hi : i < 4) : bits .or .u32 (fl : Int) (((2 ^ i : Nat)) : Int) = ((fl ||| 2 ^ i : Nat) : Int) ∧ fl ||| 2 ^ i < 16 := by
  have : ∀ (f : Fin 16) (j : Fin 4), bits .or .u32 ((f.val : Nat) : Int) (((2 ^ j.val : Nat)) : Int) = ((f.val ||| 2 ^ j.val : Nat) : Int) ∧ f.val ||| 2 ^ j.val < 16 := by decide +kernel
  exact this ⟨fl, hf⟩ ⟨i, hi⟩
theorem flag_end (t : ByteArray) : flagFrom t 4 = none := by rw [flagFrom, if_neg (by omega)]
theorem flag_hit (t : ByteArray) (i : Nat) (hi : i < 4) (h : flagName i = t) : flagFrom t i = some i := by rw [flagFrom, if_pos hi, if_pos h]
theorem flag_miss (t : ByteArray) (i : Nat) (hi : i < 4) (h : flagName i ≠ t) : flagFrom t i = flagFrom t (i + 1) := by rw [flagFrom, if_pos hi, if_neg h]
theorem bSemi_list : bSemi.toList = [59] := by rw [ByteArray.toList_eq]; rfl
set_option maxHeartbeats 4000000 in
set_option maxRecDepth 100000 in
theorem flags_ok (w : World) (r : Nat) (s : ByteArray) (i0 : Nat) (h : RdB w r s i0) (hi : i0 ≤ s.size) (hs : s.size ≤ 65536) (ht : FlagTab w) :
    Calls Tryd.prog 45 #[.pointer (some ⟨r, 0, none⟩)] w (ReadQ w r s (flagsF s 0 0 (toks s i0)) fun v => .int .u32 (v : Nat)) := by
  obtain ⟨X, eX⟩ : ∃ X, X = flagsF s 0 0 (toks s i0) := ⟨_, rfl⟩
  rw [← eX]
  obtain ⟨Q, eQ⟩ : ∃ Q, Q = ReadQ w r s X (fun v => .int .u32 (v : Nat)) := ⟨_, rfl⟩
  rw [← eQ]
  have EQ := Lib.hid eQ
  have EX := Lib.hid eX
  have H := Lib.hid h
  have HT := Lib.hid ht
  have HNE := Lib.hid (ht.ne h (by simp))
  clear eQ eX h ht
  go_enter Tryd.func45, Tryd.ntmps45
  go_wp2_with fail
  go_loopw [3, 4, 5, 6] (fun sv nv _ _ wr => ∃ (nx fl i : Nat), nv = .int .i64 (nx : Nat) ∧ sv = .int .u32 (fl : Nat) ∧ nx ≤ 4 ∧ fl < 16 ∧ i ≤ s.size ∧ RdB wr r s i ∧ OnlyP (fun b => b = r) w wr ∧ flagsF s nx fl (toks s i) = X) (fun _ nv _ _ _ => 4 - (intOf nv).toNat)
  case atStart => exact ⟨0, 0, i0, rfl, rfl, by omega, by omega, hi, H.out, OnlyP.refl _ _, EX.out.symm⟩
  case round =>
    obtain ⟨nx, fl, i, rfl, rfl, hnx, hfl, hi1, hr, ho, hX⟩ := hrel
    have HG := Lib.hid (mark_ok wr r s i hr hi1 hs)
    have HO := Lib.hid ho
    have HX := Lib.hid hX
    clear hr ho hX
    go_wp2_with fail
    refine HG.out.mono ?_
    rintro e w1 ⟨ho1, ⟨x, a, en, rfl, h1, h2, h3, hr1, ⟨hx, hv⟩ | ⟨hx, b, hxe, hv⟩⟩ | ⟨t, hg, rfl, hv⟩⟩
    · have HF := Lib.hid (show Q (.returned (.int .u32 (fl : Nat))) w1 by
        rw [EQ.out]
        refine ⟨HO.out.then ho1, ?_⟩
        rw [← HX.out, hv]
        exact ⟨rfl, en, h1, hr1, rfl⟩)
      have hxx : (x.toList == [59]) = true := by rw [hx, bSemi_list]; rfl
      clear HG ho1 hr1 hv hx
      go_wp2_with fail
      first | exact HF.out | (go_ret; exact HF.out)
    · have hho := HO.out.then ho1
      have HTT := Lib.hid (HT.out.only hho HNE.out)
      have hX1 : ∀ k, k = flagFrom x nx → X = (match k with | some j => flagsF s (j + 1) (fl ||| 2 ^ j) (toks s en) | none => .error a) := by
        rintro k rfl
        rw [← HX.out, hv, flagsF, ← hxe]
        cases flagFrom x nx <;> rfl
      have HX1 := Lib.hid hX1
      have HR1 := Lib.hid hr1
      have HO1 := Lib.hid hho
      have hxx : (x.toList == [59]) = false := by
        have h9 := str_eq x bSemi
        rw [decide_eq_false hx] at h9
        rw [bSemi_list] at h9
        exact h9
      clear HG ho1 hho hr1 hv hx hxe hX1 HX
      go_wp2_with fail
      go_loop [4] (fun nv => ∃ k : Nat, nv = .int .i64 (k : Nat) ∧ nx ≤ k ∧ k ≤ 4 ∧ flagFrom x k = flagFrom x nx) (fun nv => 4 - (intOf nv).toNat)
      case atStart => exact ⟨nx, rfl, Nat.le_refl _, hnx, rfl⟩
      case round =>
        obtain ⟨k, rfl, hk1, hk2, hkf⟩ := hrel
        by_cases hlt : k < 4
        · have hc := HTT.out.cell k hlt
          by_cases hF : flagName k = x
          · have hXX : X = flagsF s (k + 1) (fl ||| 2 ^ k) (toks s en) := HX1.out (some k) (by rw [← hkf, flag_hit x k hlt hF])
            have hf1 : ((flagName k).toList == x.toList) = true := by rw [str_eq, decide_eq_true hF]
            have HXX := Lib.hid hXX.symm
            obtain ⟨hor, hfl2⟩ := or_flag fl k hfl hlt
            have hkk : k = 0 ∨ k = 1 ∨ k = 2 ∨ k = 3 := by omega
            clear hkf hF hXX HX1
            rcases hkk with rfl | rfl | rfl | rfl
            · have hor2 : bits .or .u32 (fl : Int) 1 = ((fl ||| 2 ^ 0 : Nat) : Int) := hor
              clear hor
              go_wp2_with fail
              go_roundw
              case rel => exact ⟨0 + 1, fl ||| 2 ^ 0, en, rfl, rfl, by omega, hfl2, h1, HR1.out, HO1.out, HXX.out⟩
              case measure => simp [intOf]; omega
            · have hor2 : bits .or .u32 (fl : Int) 2 = ((fl ||| 2 ^ 1 : Nat) : Int) := hor
              clear hor
              go_wp2_with fail
              go_roundw
              case rel => exact ⟨1 + 1, fl ||| 2 ^ 1, en, rfl, rfl, by omega, hfl2, h1, HR1.out, HO1.out, HXX.out⟩
              case measure => simp [intOf]; omega
            · have hor2 : bits .or .u32 (fl : Int) 4 = ((fl ||| 2 ^ 2 : Nat) : Int) := hor
              clear hor
              go_wp2_with fail
              go_roundw
              case rel => exact ⟨2 + 1, fl ||| 2 ^ 2, en, rfl, rfl, by omega, hfl2, h1, HR1.out, HO1.out, HXX.out⟩
              case measure => simp [intOf]; omega
            · have hor2 : bits .or .u32 (fl : Int) 8 = ((fl ||| 2 ^ 3 : Nat) : Int) := hor
              clear hor
              go_wp2_with fail
              go_roundw
              case rel => exact ⟨3 + 1, fl ||| 2 ^ 3, en, rfl, rfl, by omega, hfl2, h1, HR1.out, HO1.out, HXX.out⟩
              case measure => simp [intOf]; omega
          · have hf1 : ((flagName k).toList == x.toList) = false := by rw [str_eq, decide_eq_false hF]
            have hkf2 : flagFrom x (k + 1) = flagFrom x nx := by rw [← flag_miss x k hlt hF]; exact hkf
            have HKF := Lib.hid hkf2
            obtain ⟨F, eF⟩ : ∃ F, F = flagName k := ⟨_, rfl⟩
            rw [← eF] at hc hf1
            clear hkf hF hkf2 eF
            go_wp2_with fail
            go_round
            case rel => exact ⟨k + 1, by go_num, by omega, by omega, HKF.out⟩
            case measure => simp [intOf]; omega
        · obtain rfl : k = 4 := by omega
          rw [flag_end] at hkf
          have HF := Lib.hid (show Q (faultE a) w1 by
            rw [EQ.out]
            refine ⟨HO1.out, ?_⟩
            rw [HX1.out none hkf])
          clear hkf
          go_wp2_with fail
          first | exact HF.out | exact ⟨rfl, HF.out⟩
    · have HF := Lib.hid (show Q (faultE t.pl) w1 by
        rw [EQ.out]
        refine ⟨HO.out.then ho1, ?_⟩
        rw [← HX.out, hv]
        cases t with
        | word a b => simp [Tk.goes] at hg
        | semi a => simp [Tk.goes] at hg
        | bad a => rfl
        | fin a => rfl)
      clear HG ho1 hv hg
      obtain ⟨p, ep⟩ : ∃ p, p = t.pl := ⟨_, rfl⟩
      rw [← ep] at HF ⊢
      clear ep
      unfold faultE at HF ⊢
      go_wp2_with fail
      first | exact HF.out | exact ⟨rfl, HF.out⟩
end Go.Proofs.YtbfebfeliddpnaaDoor
