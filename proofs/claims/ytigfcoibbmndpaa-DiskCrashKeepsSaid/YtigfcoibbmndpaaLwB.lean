/- The law's own small functions: Put. -/
import Derived.Test.YtigfcoibbmndpaaLwA
import Derived.Outline
namespace Go.Proofs.Ytigfcoibbmndpaa
open Go.RowKit
open Go.ChangeMaps
set_option linter.unusedVariables false
set_option linter.unusedSimpArgs false
structure PutV where
  blk : Int
  tv : Value
  txt : List Int
  past : Bool
def PutV.agg (p : PutV) : Value := .agg #[.int .i64 p.blk, p.tv, .bool p.past]
/-- The block that a Put goes to. -/
def PutV.at (p : PutV) (nb : Nat) : Nat := (p.blk % (nb : Int)).toNat
theorem PutV.at_lt (p : PutV) {nb : Nat} (h : 1 ≤ nb) : p.at nb < nb := by
  unfold PutV.at
  have := Int.emod_lt_of_pos p.blk (show (0 : Int) < nb by omega)
  omega
theorem PutV.at_int (p : PutV) {nb : Nat} (h : 1 ≤ nb) : ((p.at nb : Nat) : Int) = p.blk % (nb : Int) := by
  unfold PutV.at
  have := Int.emod_nonneg p.blk (show (nb : Int) ≠ 0 by omega)
  omega
theorem tmod_emod (b : Int) (n : Nat) (h : 1 ≤ n) : (b.tmod n < 0 → b % (n : Int) = b.tmod n + n) ∧ (¬ b.tmod n < 0 → b % (n : Int) = b.tmod n) ∧ -(n : Int) < b.tmod n ∧ b.tmod n < n := by
  have h1 : b.tmod n < n := Int.tmod_lt_of_pos b (by omega)
  have h2 : -(n : Int) < b.tmod n := by
    have := Int.tmod_lt_of_pos (-b) (show (0 : Int) < n by omega)
    rw [Int.neg_tmod] at this
    omega
  have h3 : b % (n : Int) = (b.tmod n) % (n : Int) := by
    have := Int.mul_tdiv_add_tmod b n
    generalize b.tmod n = r at this ⊢
    rw [← this, Int.add_comm, Int.add_mul_emod_self_left]
  refine ⟨fun h0 => ?_, fun h0 => ?_, h2, h1⟩
  · rw [h3, ← Int.add_emod_right]; exact Int.emod_eq_of_lt (by omega) (by omega)
  · rw [h3]; exact Int.emod_eq_of_lt (by omega) (by omega)
set_option maxHeartbeats 2000000 in
set_option maxRecDepth 100000 in
theorem block_ok (w : World) (p : PutV) (nb : Nat) (h1 : 1 ≤ nb) (h2 : nb ≤ 8192) :
    Calls Try.prog 15 #[p.agg, .int .i64 nb] w fun e w' => e = .returned (.int .i64 (p.at nb)) ∧ Below w.heap.size w w' := by
  have hat := p.at_int h1
  obtain ⟨hn, hp, l1, l2⟩ := tmod_emod p.blk nb h1
  rw [← hat] at hn hp
  obtain ⟨K, eK⟩ : ∃ K, K = p.at nb := ⟨_, rfl⟩
  rw [← eK] at hn hp ⊢
  clear hat eK
  obtain ⟨blk, tv, txt, past⟩ := p
  simp only [PutV.agg]
  dsimp only at hn hp l1 l2
  by_cases h0 : blk.tmod nb < 0
  · have e := hn h0
    have HK := Lib.hid e
    clear hn hp e
    go_enter Try.func15, Try.ntmps15
    go_wp2_with fail
    go_ret
    exact ⟨congrArg (fun x => Ending.returned (.int .i64 x)) HK.out.symm, (Below.refl _ _).alloc (Nat.le_refl _) _⟩
  · have HK := Lib.hid (hp h0)
    clear hn hp
    go_enter Try.func15, Try.ntmps15
    go_wp2_with fail
    go_ret
    exact ⟨congrArg (fun x => Ending.returned (.int .i64 x)) HK.out.symm, (Below.refl _ _).alloc (Nat.le_refl _) _⟩
/-- The bytes that a Put writes. -/
def padF (xs : List Int) (sz : Nat) : List Int := (xs ++ List.replicate sz 0).take sz
theorem padF_len (xs : List Int) (sz : Nat) : (padF xs sz).length = sz := by unfold padF; rw [List.length_take]; simp
theorem padF_at (xs : List Int) (sz i : Nat) (hi : i < sz) : (padF xs sz).getD i 0 = if i < xs.length then xs.getD i 0 else 0 := by
  unfold padF
  simp only [List.getD_eq_getElem?_getD]
  rw [List.getElem?_take, if_pos hi]
  by_cases h : i < xs.length
  · rw [if_pos h, List.getElem?_append_left h]
  · rw [if_neg h, List.getElem?_append_right (by omega), List.getElem?_replicate]
    split <;> rfl
def BytesQ (w : World) (sz : Nat) (xs : List Int) (e : Ending) (w' : World) : Prop :=
  ∃ B, e = .returned (.slice (some ⟨B, 0, none⟩) sz sz) ∧ w.heap.size ≤ B ∧ RowA .u8 5 w' B sz (fun i => (padF xs sz).getD i 0) ∧ Below w.heap.size w w'
set_option maxHeartbeats 4000000 in
set_option maxRecDepth 100000 in
theorem bytes_ok (w : World) (p : PutV) (sz : Nat) (h1 : sz ≤ 1024) (hr : Rd .u8 w p.tv p.txt) (hm : p.txt.length ≤ 9223372036854775807) :
    Calls Try.prog 18 #[p.agg, .int .i64 sz] w (BytesQ w sz p.txt) := by
  obtain ⟨blk, tv, xs, past⟩ := p
  simp only [PutV.agg]
  dsimp only at hr hm
  obtain ⟨A, cp, rfl⟩ := hr.slice
  obtain ⟨L, eL⟩ : ∃ L, L = xs.length := ⟨_, rfl⟩
  have HR := Lib.hid hr
  have EL := Lib.hid eL
  rw [← eL] at hm ⊢
  obtain ⟨Q, eQ⟩ : ∃ Q, Q = BytesQ w sz xs := ⟨_, rfl⟩
  rw [← eQ]
  have EQ := Lib.hid eQ
  have hmk := fun w => run_make_row' (P := Try.prog) 24 5 (.int .u8 0) 1 Try.underlying24 hd_info5 rfl .i64 .i64 sz (by omega) (by omega) w
  clear hr eL eQ
  go_enter Try.func18, Try.ntmps18
  go_wp2_with fail
  obtain ⟨w2, e2⟩ : ∃ w2, w2 = (w.alloc (.cells #[.int .i64 blk, .slice A L cp, .bool past] 38)).alloc (.cells (madeCells #[.int .u8 0] sz) 5) := ⟨_, rfl⟩
  have hb2 : Below w.heap.size w w2 := by rw [e2]; exact ((Below.refl _ _).alloc (Nat.le_refl _) _).alloc (by simp) _
  have hs2 : w2.heap.size = w.heap.size + 1 + 1 := by rw [e2]; simp
  have hc2 : w2.cell? ⟨w.heap.size, 1, none⟩ = some (.slice A L cp) := by rw [e2]; exact ((Blk.newAt w w.heap.size _ _ rfl).alloc _).cell 1
  have hr2 : RowA .u8 5 w2 (w.heap.size + 1) sz (fun _ => 0) := by rw [e2]; exact RowA.madeAt _ _ _ (by simp)
  rw [← e2]
  have HB2 := Lib.hid hb2
  have HC2 := Lib.hid hc2
  have HR2 := Lib.hid hr2
  clear hb2 hc2 hr2 e2
  go_loopw [6] (fun b wr => ∃ i : Nat, i ≤ sz ∧ i ≤ L ∧ b = .int .i64 i ∧ RowA .u8 5 wr (w.heap.size + 1) sz (fun t => if t < i then xs.getD t 0 else 0) ∧ Below (w.heap.size + 1) w2 wr) (fun b _ => sz - (intOf b).toNat)
  case atStart => exact ⟨0, by omega, by omega, rfl, HR2.out.congr (fun t _ => by simp), Below.refl _ _⟩
  case round =>
    obtain ⟨i, hi, hiL, rfl, hrow, hbel⟩ := hrel
    have cr : wr.cell? ⟨w.heap.size, 1, none⟩ = some (.slice A L cp) := (cell_of_heap (hbel.block w.heap.size (by omega)) 1).trans HC2.out
    have HROW := Lib.hid hrow
    have HBEL := Lib.hid hbel
    clear hrow hbel HR2
    have hfin : (sz ≤ i ∨ L ≤ i) → Q (.returned (.slice (some ⟨w.heap.size + 1, 0, none⟩) sz sz)) wr := fun h => by
      rw [EQ.out]
      refine ⟨w.heap.size + 1, rfl, by omega, HROW.out.congr (fun t ht => ?_), ?_⟩
      · rw [padF_at _ _ _ ht, ← EL.out]
        by_cases h1 : t < i
        · rw [if_pos h1, if_pos (by omega)]
        · rw [if_neg h1]
          rw [if_neg (by omega)]
      · exact HB2.out.trans (HBEL.out.mono (by omega))
    have HF := Lib.hid hfin
    clear hfin
    by_cases hlt : i < sz
    · by_cases hlL : i < L
      · have cx : wr.cell? ⟨w.heap.size, 1, none⟩ = some (.slice A L cp) := cr
        obtain ⟨bb, off, rfl, hxc⟩ : ∃ bb off, A = some ⟨bb, off, none⟩ ∧ wr.cell? ⟨bb, off + i, none⟩ = some (.int .u8 (xs.getD i 0)) := by
          rcases HR.out with ⟨h, _⟩ | ⟨b, off, c, e, g1, g2, g3, g4⟩
          · rw [EL.out, h] at hlL; simp at hlL
          · simp only [Value.slice.injEq] at e
            refine ⟨b, off, e.1, ?_⟩
            exact (cell_of_heap ((HBEL.out.block b (by omega)).trans (HB2.out.block b g3)) (off + i)).trans (g4 i (by rw [← EL.out]; exact hlL))
        have fz : wr.frozen? ⟨w.heap.size + 1, i, none⟩ = false := HROW.out.free i
        have cz := HROW.out.cell i hlt
        go_wp2_with fail
        go_roundw
        case rel =>
          refine ⟨i + 1, by omega, by omega, by go_num, (HROW.out.put i (xs.getD i 0)).congr (fun t ht => ?_), HBEL.out.setCell (Nat.le_refl _) _⟩
          by_cases e : t = i
          · rw [e, if_pos rfl, if_pos (by omega)]
          · rw [if_neg e]
            by_cases h1 : t < i
            · rw [if_pos h1, if_pos (by omega)]
            · rw [if_neg h1, if_neg (by omega)]
        case measure => simp [intOf] <;> omega
      · have HF' := Lib.hid (HF.out (.inr (by omega)))
        clear HF
        go_wp2_with fail
        first | exact HF'.out | (go_ret; exact HF'.out)
    · have HF' := Lib.hid (HF.out (.inl (by omega)))
      clear HF
      go_wp2_with fail
      first | exact HF'.out | (go_ret; exact HF'.out)
end Go.Proofs.Ytigfcoibbmndpaa
