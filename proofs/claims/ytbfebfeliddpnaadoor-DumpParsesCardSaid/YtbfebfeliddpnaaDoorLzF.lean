/- The book: kept. -/
import Derived.Test.YtbfebfeliddpnaaDoorLzE
namespace Go.Proofs.YtbfebfeliddpnaaDoor
open Go.RowKit
open Go.ChangeMaps
set_option linter.unusedVariables false
set_option linter.unusedSimpArgs false
theorem rd_rep {k : IntKind} {w : World} {v : Value} {c : Nat} {x : Int} (h : Rd k w v (List.replicate c x)) : ∃ A cap, v = .slice A c cap ∧ ∀ j, j < c → ∃ b off, A = some ⟨b, off, none⟩ ∧ b < w.heap.size ∧ w.cell? ⟨b, off + j, none⟩ = some (.int k x) := by
  rcases h with ⟨h0, A, cap, rfl⟩ | ⟨b, off, cap, rfl, h1, h2, h3, h4⟩
  · have : c = 0 := by have := congrArg List.length h0; simpa using this
    subst this
    exact ⟨A, cap, rfl, fun j hj => by omega⟩
  · refine ⟨_, cap, by rw [List.length_replicate], fun j hj => ⟨b, off, rfl, h3, ?_⟩⟩
    rw [h4 j (by rw [List.length_replicate]; exact hj), List.getD_eq_getElem?_getD, List.getElem?_replicate, if_pos hj]; rfl
set_option maxHeartbeats 8000000 in
set_option maxRecDepth 100000 in
theorem kept_ok (B : Nat) (w : World) (p n : Nat) (S : Nat → Prop) (vW vI : Value) (LW LI : List Value) (hK : BkS B w p n S vW vI LW LI) (hn : n ≤ 1000) :
    Calls Tryd.prog 12 #[.pointer (some ⟨p, 0, none⟩)] w (fun e w' => e = .returned (.bool true) ∧ w' = w) := by
  obtain ⟨Q, eQ⟩ : ∃ Q : Ending → World → Prop, Q = fun e w' => e = .returned (.bool true) ∧ w' = w := ⟨_, rfl⟩
  rw [← eQ]
  have HF := Lib.hid (show Q (.returned (.bool true)) w by rw [eQ]; exact ⟨rfl, rfl⟩)
  clear eQ
  obtain ⟨NW, eNW⟩ : ∃ x, x = 2 * n := ⟨_, rfl⟩
  have hNW : NW ≤ 2000 := by omega
  have hKw := hK.ws
  have hKi := hK.is
  rw [← eNW] at hKw hKi
  obtain ⟨AW, cW, rfl⟩ := own_sl hKw
  obtain ⟨AI, cI, rfl⟩ := own_sl hKi
  have p0 : w.cell? ⟨p, 0, none⟩ = some (.slice AW NW cW) := hK.blk.cell 0
  have p1 : w.cell? ⟨p, 1, none⟩ = some (.slice AI NW cI) := hK.blk.cell 1
  have hp : p < w.heap.size := hK.blk.lt
  have HKW := Lib.hid hKw
  have HKI := Lib.hid hKi
  have HMW := Lib.hid hK.mw
  have HMI := Lib.hid hK.mi
  clear hKw hKi hK eNW
  go_enter Tryd.func12, Tryd.ntmps12
  go_wp2_with fail
  go_loopw [3, 4] (fun iv _ wr => ∃ i : Nat, iv = .int .i64 (i : Nat) ∧ i ≤ NW ∧ wr = w) (fun iv _ _ => NW - (intOf iv).toNat)
  case atStart => exact ⟨0, rfl, Nat.zero_le _, rfl⟩
  case round =>
    obtain ⟨i, rfl, hi, hwr⟩ := hrel
    obtain rfl : w = wr := hwr.symm
    by_cases hlt : i < NW
    · obtain ⟨gW, cc, hv, _, hgl⟩ := HKW.out.form (by omega)
      simp only [Value.slice.injEq] at hv
      obtain ⟨hv1, _, hv2⟩ := hv
      subst hv1
      subst hv2
      obtain ⟨v, hvi⟩ : ∃ v, LW[i]? = some v := ⟨_, List.getElem?_eq_getElem (by have := HKW.out.1; omega)⟩
      have ce := HKW.out.cellAt i (by omega)
      rw [hvi] at ce
      obtain ⟨c, hc, hr, _⟩ := HMW.out i v hvi
      obtain ⟨Av, capv, rfl, hcells⟩ := rd_rep hr
      obtain ⟨H2, eH2⟩ : ∃ x, x = i / 2 := ⟨_, rfl⟩
      have ht : Int.tdiv ((i : Nat) : Int) 2 = (H2 : Int) := by rw [Int.tdiv_eq_ediv_of_nonneg (by omega)]; omega
      have hH2 : H2 ≤ 1000 := by omega
      rw [← eH2] at hcells
      unfold mkW at hcells
      have HCE := Lib.hid hcells
      have di : decide (i < NW) = true := decide_eq_true hlt
      clear hr hvi hcells eH2
      go_wp2_with fail
      go_loopw [4] (fun jv wr => ∃ j : Nat, jv = .int .i64 (j : Nat) ∧ j ≤ c ∧ wr = w) (fun jv _ => c - (intOf jv).toNat)
      case atStart => exact ⟨0, rfl, Nat.zero_le _, rfl⟩
      case round =>
        obtain ⟨j, rfl, hj, hwr⟩ := hrel
        obtain rfl : w = wr := hwr.symm
        by_cases hjc : j < c
        · obtain ⟨b, off, rfl, hb, hcl⟩ := HCE.out j hjc
          have dj : decide (j < c) = true := decide_eq_true hjc
          go_wp2_with fail
          go_roundw
          case rel => exact ⟨j + 1, by go_num, by omega, trivial⟩
          case measure => simp [intOf]; omega
        · obtain rfl : c = j := by omega
          have dj : decide (c < c) = false := decide_eq_false (by omega)
          go_wp2_with fail
          go_roundw
          case rel => exact ⟨i + 1, by go_num, by omega, trivial⟩
          case measure => simp [intOf]; omega
    · obtain rfl : NW = i := by omega
      have di : decide (NW < NW) = false := decide_eq_false (by omega)
      go_wp2_with fail
      go_loopw [5, 6] (fun iv _ wr => ∃ i : Nat, iv = .int .i64 (i : Nat) ∧ i ≤ NW ∧ wr = w) (fun iv _ _ => NW - (intOf iv).toNat)
      case atStart => exact ⟨0, rfl, Nat.zero_le _, rfl⟩
      case round =>
        obtain ⟨i, rfl, hi, hwr⟩ := hrel
        obtain rfl : w = wr := hwr.symm
        by_cases hlt : i < NW
        · obtain ⟨gW, cc, hv, _, hgl⟩ := HKI.out.form (by omega)
          simp only [Value.slice.injEq] at hv
          obtain ⟨hv1, _, hv2⟩ := hv
          subst hv1
          subst hv2
          obtain ⟨v, hvi⟩ : ∃ v, LI[i]? = some v := ⟨_, List.getElem?_eq_getElem (by have := HKI.out.1; omega)⟩
          have ce := HKI.out.cellAt i (by omega)
          rw [hvi] at ce
          obtain ⟨c, hc, hr, _⟩ := HMI.out i v hvi
          obtain ⟨Av, capv, rfl, hcells⟩ := rd_rep hr
          obtain ⟨H2, eH2⟩ : ∃ x, x = i / 2 := ⟨_, rfl⟩
          have ht : Int.tdiv ((i : Nat) : Int) 2 = (H2 : Int) := by rw [Int.tdiv_eq_ediv_of_nonneg (by omega)]; omega
          have hH2 : H2 ≤ 1000 := by omega
          rw [← eH2] at hcells
          unfold mkI at hcells
          have HCE := Lib.hid hcells
          have di : decide (i < NW) = true := decide_eq_true hlt
          clear hr hvi hcells eH2
          go_wp2_with fail
          go_loopw [6] (fun jv wr => ∃ j : Nat, jv = .int .i64 (j : Nat) ∧ j ≤ c ∧ wr = w) (fun jv _ => c - (intOf jv).toNat)
          case atStart => exact ⟨0, rfl, Nat.zero_le _, rfl⟩
          case round =>
            obtain ⟨j, rfl, hj, hwr⟩ := hrel
            obtain rfl : w = wr := hwr.symm
            by_cases hjc : j < c
            · obtain ⟨b, off, rfl, hb, hcl⟩ := HCE.out j hjc
              have dj : decide (j < c) = true := decide_eq_true hjc
              go_wp2_with fail
              go_roundw
              case rel => exact ⟨j + 1, by go_num, by omega, trivial⟩
              case measure => simp [intOf]; omega
            · obtain rfl : c = j := by omega
              have dj : decide (c < c) = false := decide_eq_false (by omega)
              go_wp2_with fail
              go_roundw
              case rel => exact ⟨i + 1, by go_num, by omega, trivial⟩
              case measure => simp [intOf]; omega
        · obtain rfl : NW = i := by omega
          have di : decide (NW < NW) = false := decide_eq_false (by omega)
          go_wp2_with fail
          first | exact HF.out | (go_ret; exact HF.out)
end Go.Proofs.YtbfebfeliddpnaaDoor
