/- Joined of the texts RdW RdX RdY RdZ. -/
import Derived.Test.YtigfcoibbmndpaaGreatRdV
import Derived.Outline
import Derived.Deep.RegionHeld3
import Derived.Deep.AppendLies
import Derived.Deep.RegionLaw
/- The reference's New. -/
namespace Go.Proofs.YtigfcoibbmndpaaGreat
open Go.RowKit
open Go.ChangeMaps
set_option linter.unusedVariables false
set_option linter.unusedSimpArgs false
def nArr (nb sz : Nat) (vm vs : Value) : Array Value := #[.int .i64 nb, .int .i64 sz, vm, vs, .slice none 0 0, .bool true, .int .i64 (-1), .int .i64 0, .int .i64 0, .int .i64 0, .int .i64 0, .int .i64 (-1)]
/-- A new disk under way: i blocks of zeroes, j marks. -/
structure NewR (w wr : World) (r nb sz i j : Nat) (vm vs : Value) : Prop where
  blk : Blk wr r 74 (nArr nb sz vm vs)
  med : ∃ Vs, wr.ownsRow (r + 1) 22 1 vm i Vs ∧ ∀ t, t < i → ∃ b, Vs[t]? = some (.slice (some ⟨b, 0, none⟩) sz sz) ∧ r < b ∧ RowA .u8 5 wr b sz (fun _ => 0)
  spo : wr.ownsRow (r + 1) 4 1 vs j (List.replicate j (.bool false))
  bel : Below w.heap.size w wr
  own : w.heap.size ≤ r
theorem below_grown2 {w wr w' : World} {C : Nat} {row : Option Nat} (h : Below C w wr) (hg : wr.grownBy w' row) (hr : ∀ g, row = some g → C ≤ g) (hs : C ≤ w.heap.size) : Below C w w' :=
  ⟨hg.os.trans h.os, hg.tape.trans h.tape, hg.output.trans h.output, Nat.le_trans h.size hg.size, fun k hk => (hg.block k (by have := h.size; omega) (fun e => by have := hr k e.symm; omega)).trans (h.block k hk)⟩
theorem NewR.more {w wr w4 : World} {r nb sz i j g cap : Nat} {vm vs : Value} {Vs : List Value} (h : NewR w wr r nb sz i j vm vs) (hown : wr.ownsRow (r + 1) 22 1 vm i Vs) (hel : ∀ t, t < i → ∃ b, Vs[t]? = some (.slice (some ⟨b, 0, none⟩) sz sz) ∧ r < b ∧ RowA .u8 5 wr b sz (fun _ => 0))
    (hg4 : ((wr.alloc (.cells (madeCells #[.int .u8 0] sz) 5)).alloc (.cells #[.slice (some ⟨wr.heap.size, 0, none⟩) sz sz] 22)).grownBy w4 vm.ownBlock)
    (ho4 : w4.ownsRow (r + 1) 22 1 (.slice (some ⟨g, 0, none⟩) (i + 1) cap) (i + 1) (Vs ++ [.slice (some ⟨wr.heap.size, 0, none⟩) sz sz])) :
    NewR w (w4.setCell ⟨r, 2, none⟩ (.slice (some ⟨g, 0, none⟩) (i + 1) cap)) r nb sz (i + 1) j (.slice (some ⟨g, 0, none⟩) (i + 1) cap) vs := by
  have far4 : ∀ b, b < wr.heap.size → some b ≠ vm.ownBlock → w4.heap[b]? = wr.heap[b]? := fun b hb hne =>
    (hg4.block b (by simp; omega) hne).trans ((Below.heap_alloc _ _ b (by simp; omega)).trans (Below.heap_alloc wr _ b hb))
  have far5 : ∀ b, b ≠ r → (w4.setCell ⟨r, 2, none⟩ (.slice (some ⟨g, 0, none⟩) (i + 1) cap)).heap[b]? = w4.heap[b]? := fun b hb => Below.heap_setCell w4 ⟨r, 2, none⟩ _ b hb
  have hrl := h.blk.lt
  have hr4 : Blk w4 r 74 (nArr nb sz vm vs) := (far4 r hrl (h.blk.ne_ownN hown (by decide))).trans h.blk
  refine ⟨hr4.set 2 _, ⟨_, own_keep2 ho4 (fun g' hg' => far5 g' (by have := (ho4.lt g' hg').1; omega)), fun t ht => ?_⟩, ?_, ?_, h.own⟩
  · have hvl : Vs.length = i := by have := hown.1; omega
    by_cases e : t < i
    · obtain ⟨b, a1, a2, a3⟩ := hel t e
      exact ⟨b, by rw [List.getElem?_append_left (by omega)]; exact a1, a2, (a3.keep (far4 b a3.lt (a3.ne_ownN hown (by decide)))).keep (far5 b (by omega))⟩
    · obtain rfl : t = i := by omega
      refine ⟨wr.heap.size, by rw [List.getElem?_append_right (by omega), hvl, Nat.sub_self]; rfl, hrl, ?_⟩
      have h1 : RowA .u8 5 (wr.alloc (.cells (madeCells #[.int .u8 0] sz) 5)) wr.heap.size sz (fun _ => 0) := RowA.made .u8 5 wr sz
      refine ((h1.alloc _).keep (hg4.block wr.heap.size (by simp; omega) (fun e => ?_))).keep (far5 _ (by omega))
      have := (hown.lt _ e.symm).2; omega
  · refine own_keep2 h.spo (fun g' hg' => (far5 g' (by have := (h.spo.lt g' hg').1; omega)).trans (far4 g' (h.spo.lt g' hg').2 ?_))
    obtain ⟨cur, hc⟩ := own_blockN h.spo g' hg'
    exact hc.ne_ownN hown (by decide)
  · have hb1 : Below w.heap.size w w4 := by
      refine below_grown2 ((h.bel.alloc (h.bel.size) _).alloc ?_ _) hg4 (fun g' hg' => by have := (hown.lt g' hg').1; have := h.own; omega) (Nat.le_refl _)
      have := h.bel.size; simp; omega
    exact hb1.setCell h.own _
theorem NewR.mark {w wr w4 : World} {r nb sz i j : Nat} {vm vs v' : Value} (h : NewR w wr r nb sz i j vm vs)
    (hg4 : wr.grownBy w4 vs.ownBlock)
    (ho4 : w4.ownsRow (r + 1) 4 1 v' (j + 1) (List.replicate j (.bool false) ++ [.bool false])) :
    NewR w (w4.setCell ⟨r, 3, none⟩ v') r nb sz i (j + 1) vm v' := by
  have far4 : ∀ b, b < wr.heap.size → some b ≠ vs.ownBlock → w4.heap[b]? = wr.heap[b]? := fun b hb hne =>
    hg4.block b hb hne
  have far5 : ∀ b, b ≠ r → (w4.setCell ⟨r, 3, none⟩ v').heap[b]? = w4.heap[b]? := fun b hb => Below.heap_setCell w4 ⟨r, 3, none⟩ _ b hb
  have hrl := h.blk.lt
  have hr4 : Blk w4 r 74 (nArr nb sz vm vs) := (far4 r hrl (h.blk.ne_ownN h.spo (by decide))).trans h.blk
  refine ⟨hr4.set 3 _, ?_, ?_, ?_, h.own⟩
  · obtain ⟨Vs, hown, hel⟩ := h.med
    refine ⟨Vs, own_keep2 hown (fun g' hg' => (far5 g' (by have := (hown.lt g' hg').1; omega)).trans (far4 g' (hown.lt g' hg').2 ?_)), fun t ht => ?_⟩
    · obtain ⟨cur, hc⟩ := own_blockN hown g' hg'
      exact hc.ne_ownN h.spo (by decide)
    · obtain ⟨b, a1, a2, a3⟩ := hel t ht
      exact ⟨b, a1, a2, (a3.keep (far4 b a3.lt (a3.ne_ownN h.spo (by decide)))).keep (far5 b (by omega))⟩
  · rw [List.replicate_succ']
    exact own_keep2 ho4 (fun g' hg' => far5 g' (by have := (ho4.lt g' hg').1; omega))
  · have hb1 : Below w.heap.size w w4 := by
      refine below_grown2 h.bel hg4 (fun g' hg' => by have := (h.spo.lt g' hg').1; have := h.own; omega) (Nat.le_refl _)
    exact hb1.setCell h.own _
theorem NewR.rep {w wr : World} {r nb sz : Nat} {vm vs : Value} (h : NewR w wr r nb sz nb nb vm vs) (h1 : 1 ≤ nb) (h2 : nb ≤ 8192) (hs : Size sz) :
    RRep (fun b => w.heap.size ≤ b ∧ b < wr.heap.size) wr r (newS nb sz) (-1) 0 := by
  obtain ⟨Vs, hown, hel⟩ := h.med
  rcases hown.2 with ⟨_, h0⟩ | ⟨Bm, cm, mcur, rfl, m1, m2, m3, m4, m5, m6⟩
  · omega
  rcases h.spo.2 with ⟨_, h0⟩ | ⟨Bs, cs, scur, rfl, s1, s2, s3, s4, s5, s6⟩
  · omega
  have hmB : Blk wr Bm 22 mcur := m2
  have hsB : Blk wr Bs 4 scur := s2
  have hne : Bm ≠ Bs := hmB.ne_blk hsB (by decide)
  have hrl := h.blk.lt
  refine ⟨Bm, Bs, cm, cs, .slice none 0 0, fun b => r < b ∧ b < wr.heap.size ∧ b ≠ Bm ∧ b ≠ Bs, [], ⟨newS_wf h1 h2 hs, h.blk, ?_, ?_, ⟨[], rfl, World.ownsRow_nil _ _ _ _, fun i hi => absurd hi (by simp)⟩, fun k => rfl, fun x hx => by simp at hx, fun g hg => by simp [Value.ownBlock] at hg, fun b hb => ⟨hb.2.1, by have := hb.1; omega, hb.2.2.1, hb.2.2.2⟩, hne⟩, ?_, fun b hb => hb.2, Nat.le_refl _⟩
  · refine ⟨mcur, hmB, m3, fun k hk => ?_⟩
    obtain ⟨b, a1, a2, a3⟩ := hel k hk
    refine ⟨.slice (some ⟨b, 0, none⟩) sz sz, ?_, b, rfl, ⟨a2, a3.lt, a3.ne_blk hmB (by decide), a3.ne_blk hsB (by decide)⟩, ?_⟩
    · have h9 := a1
      rw [← m6, List.getElem?_take, if_pos (by show k < nb * 1; have : k < nb := hk; omega), Array.getElem?_toList] at h9
      exact h9
    · refine a3.congr (fun i hi => ?_)
      show (0 : Int) = (List.replicate sz 0).getD i 0
      rw [List.getD_eq_getElem?_getD, List.getElem?_replicate, if_pos hi]; rfl
  · refine ⟨scur, hsB, s3, fun k hk => ?_⟩
    have hk' : k < nb := hk
    have h9 : (List.replicate nb (Value.bool false))[k]? = some (.bool false) := by rw [List.getElem?_replicate, if_pos hk']
    rw [← s6, List.getElem?_take, if_pos (by omega), Array.getElem?_toList] at h9
    exact h9
  · have h0 := h.own
    rintro b (rfl | rfl | rfl | hb)
    · exact ⟨h0, hrl⟩
    · exact ⟨by omega, hmB.lt⟩
    · exact ⟨by omega, hsB.lt⟩
    · exact ⟨by omega, hb.2.1⟩
def RNewQ (w : World) (nb sz : Nat) (e : Ending) (w' : World) : Prop :=
  ∃ r P, e = .returned (.tuple #[.pointer (some ⟨r, 0, none⟩), .int .i64 0]) ∧ RRep P w' r (newS nb sz) (-1) 0 ∧ (∀ b, P b → w.heap.size ≤ b) ∧ Below w.heap.size w w'
end Go.Proofs.YtigfcoibbmndpaaGreat
/- The reference's New: the walk. -/
namespace Go.Proofs.YtigfcoibbmndpaaGreat
open Go.RowKit
open Go.ChangeMaps
set_option linter.unusedVariables false
set_option linter.unusedSimpArgs false
theorem own1_form {w : World} {B : Nat} {e : TypeId} {v : Value} {n : Nat} {xs : List Value} (h : w.ownsRow B e 1 v n xs) : ∃ A c, v = .slice A n c := by
  rcases h.2 with ⟨h, h0⟩ | ⟨g, cap, cur, h, _⟩
  · exact ⟨none, 0, by rw [h, h0]⟩
  · exact ⟨_, _, h⟩
set_option maxHeartbeats 8000000 in
set_option maxRecDepth 100000 in
theorem rnew_ok (w : World) (nb sz : Nat) (h1 : 1 ≤ nb) (h2 : nb ≤ 8192) (hs : Size sz) :
    Calls Tryz.prog 22 #[.int .i64 nb, .int .i64 sz] w (RNewQ w nb sz) := by
  obtain ⟨Q, eQ⟩ : ∃ Q, Q = RNewQ w nb sz := ⟨_, rfl⟩
  rw [← eQ]
  have EQ := Lib.hid eQ
  have HS := Lib.hid hs
  have hsz0 : 0 < sz := by unfold Size at hs; omega
  have hsz1 : sz ≤ 1024 := by unfold Size at hs; omega
  have hsd : decide ((sz : Int) = 128 ∨ (sz : Int) = 256 ∨ (sz : Int) = 512 ∨ (sz : Int) = 1024) = true := decide_eq_true (by unfold Size at hs; omega)
  have hsi := sizes_ok w sz
  rw [hsd] at hsi
  have HSI := Lib.hid hsi
  have hmk := fun w => run_make_row' (P := Tryz.prog) 22 5 (.int .u8 0) 1 Tryz.underlying22 hd_info5 rfl .i64 .i64 sz (by omega) (by omega) w
  obtain ⟨i0, hi0, hz0, hz1, hz2⟩ := info_parts info_sl
  obtain ⟨i1, hj0, hj1, hj2, hj3⟩ := info_parts info_bool
  have t1 : decide ((nb : Int) < 1) = false := decide_eq_false (by omega)
  have t2 : decide ((8192 : Int) < (nb : Int)) = false := decide_eq_false (by omega)
  clear eQ hs hsd hsi
  go_enter Tryz.func22, Tryz.ntmps22
  go_wp2_with fail
  refine HSI.out.mono ?_
  rintro e w' ⟨rfl, rfl⟩
  go_wp2_with fail
  obtain ⟨R, eR⟩ : ∃ R, R = w.heap.size := ⟨_, rfl⟩
  have hst : NewR w (w.alloc (.cells (nArr nb sz (.slice none 0 0) (.slice none 0 0)) 74)) R nb sz 0 0 (.slice none 0 0) (.slice none 0 0) := by
    rw [eR]
    exact ⟨Blk.new _ _ _, ⟨[], World.ownsRow_nil _ _ _ _, fun t ht => absurd ht (by omega)⟩, World.ownsRow_nil _ _ _ _, (Below.refl _ _).alloc (Nat.le_refl _) _, Nat.le_refl _⟩
  obtain ⟨w2, e2⟩ : ∃ w2, w2 = w.alloc (.cells (nArr nb sz (.slice none 0 0) (.slice none 0 0)) 74) := ⟨_, rfl⟩
  rw [← e2] at hst
  unfold nArr at e2
  rw [← e2]
  have HST := Lib.hid hst
  have ER := Lib.hid eR
  rw [← eR]
  clear hst e2 eR HSI
  go_loopw [8] (fun b wr => ∃ i : Nat, i ≤ nb ∧ b = .int .i64 i ∧ ∃ vm vs, NewR w wr R nb sz i i vm vs) (fun b _ => nb - (intOf b).toNat)
  case atStart => exact ⟨0, Nat.zero_le _, rfl, _, _, HST.out⟩
  case round =>
    obtain ⟨i, hi, rfl, vm, vs, hN⟩ := hrel
    by_cases hlt : i < nb
    · obtain ⟨Vs, hown, hel⟩ := hN.med
      obtain ⟨Am, cmm, rfl⟩ := own1_form hown
      obtain ⟨As, csm, rfl⟩ := own1_form hN.spo
      have c2 : wr.cell? ⟨R, 2, none⟩ = some (.slice Am i cmm) := hN.blk.cell 2
      have hrl := hN.blk.lt
      have hsw : ((wr.drew.alloc (.cells (madeCells #[.int .u8 0] sz) 5))).heap.size = wr.heap.size + 1 := by simp
      have hnbk : (((wr.drew.alloc (.cells (madeCells #[.int .u8 0] sz) 5))).alloc (.cells #[.slice (some ⟨wr.heap.size, 0, none⟩) sz sz] 22)).heap[wr.heap.size + 1]? = some (.cells #[.slice (some ⟨wr.heap.size, 0, none⟩) sz sz] 22 (0, 0)) := by
        have h9 := heap_alloc_new (wr.drew.alloc (.cells (madeCells #[.int .u8 0] sz) 5)) (.cells #[.slice (some ⟨wr.heap.size, 0, none⟩) sz sz] 22)
        rw [hsw] at h9; exact h9
      have hbw : Below wr.heap.size wr ((wr.drew.alloc (.cells (madeCells #[.int .u8 0] sz) 5))) := (⟨rfl, rfl, rfl, Nat.le_refl _, fun _ _ => rfl⟩ : Below wr.heap.size wr wr.drew).alloc (Nat.le_refl _) _
      have k2 : ((wr.drew.alloc (.cells (madeCells #[.int .u8 0] sz) 5))).cell? ⟨R, 2, none⟩ = some (.slice Am i cmm) := (hN.blk.below hbw hrl).cell 2
      have k3 : (((wr.drew.alloc (.cells (madeCells #[.int .u8 0] sz) 5))).alloc (.cells #[.slice (some ⟨wr.heap.size, 0, none⟩) sz sz] 22)).cell? ⟨R, 2, none⟩ = some (.slice Am i cmm) := ((hN.blk.below hbw hrl).alloc _).cell 2
      have HNBK := Lib.hid hnbk
      have HBW := Lib.hid hbw
      have HN := Lib.hid hN
      have HOWN := Lib.hid hown
      have HEL := Lib.hid hel
      have HK3 := Lib.hid k3
      have hR1 : R + 1 ≤ wr.heap.size := hrl
      have HLT := Lib.hid hlt
      clear hN hown hel hsw hnbk hbw
      go_wp2_with fail
      go_region_law (first
          | (refine step_append_lies _ rfl (.tmp 34) (.tmp 37) 30 rfl (R + 1) 22 i0 _ 1 24 Tryz.underlying30 hi0 hz0 hz1 hz2 rfl (by omega) (.slice Am i cmm) i _ rfl ((own1_below HOWN.out HBW.out).alloc _) ⟨wr.heap.size + 1, 0, none⟩ 1 1 [.slice (some ⟨wr.heap.size, 0, none⟩) sz sz] rfl rfl (World.news_of_block (cs := #[.slice (some ⟨wr.heap.size, 0, none⟩) sz sz]) (t := 22) (fr := (0, 0)) HNBK.out) (by simp [Value.oneCell']) (by omega) (by unfold maxLen; omega) (by omega) (by simp; omega) (wr.heap.size + 1 + 1) (by simp) ?_; intro g cap w4 ho4 hg4 hat hlt4; have HO4 := Lib.hid ho4; have HG4 := Lib.hid hg4; have HK4 := Lib.hid (show w4.cell? ⟨R, 2, none⟩ = some (.slice Am i cmm) from ((hg4.cell_far ⟨R, 2, none⟩ (by simp; omega) (HN.out.blk.ne_ownN HOWN.out (by decide))).trans HK3.out)); have f4 : w4.frozen? ⟨R, 2, none⟩ = false := (hg4.frozen_far ⟨R, 2, none⟩ (by simp; omega) (HN.out.blk.ne_ownN HOWN.out (by decide))).trans (((HN.out.blk.below HBW.out HN.out.blk.lt).alloc _).free 2); have k4 := HK4.out; clear ho4 hg4 hat))
      all_goals
        have hg4' : ((wr.alloc (.cells (madeCells #[.int .u8 0] sz) 5)).alloc (.cells #[.slice (some ⟨wr.heap.size, 0, none⟩) sz sz] 22)).grownBy w4 (Value.slice Am i cmm).ownBlock := by
          have h := HG4.out
          exact ⟨h.os, h.tape, h.output, h.size, h.block⟩
        have hN2 := HN.out.more HOWN.out HEL.out hg4' HO4.out
        obtain ⟨w5, ew5⟩ : ∃ w5, w5 = w4.setCell ⟨R, 2, none⟩ (.slice (some ⟨g, 0, none⟩) (i + 1) cap) := ⟨_, rfl⟩
        rw [← ew5] at hN2 ⊢
        have c3 : w5.cell? ⟨R, 3, none⟩ = some (.slice As i csm) := hN2.blk.cell 3
        have hrl5 := hN2.blk.lt
        have HN2 := Lib.hid hN2
        clear hg4' hN2 HO4 HG4 HK4 HK3 k2 k3 k4 f4 c2 HN HOWN HEL HNBK HBW ew5
        have f3 := HN2.out.blk.free 3
        go_wp2_with (with_reducible refine app1 rfl (.tmp 45) (.tmp 46) 46 rfl (R + 1) 4 (.bool false) 1 Tryz.underlying46 info_bool rfl _ i _ rfl HN2.out.spo (.bool false) 1 rfl rfl ?c1 ?c2 ?c3 ?_)
        case c1 => unfold maxLen; omega
        case c2 => omega
        case c3 => exact hrl5
        intro v9 w9 ho9 hg9
        have hN3 := HN2.out.mark hg9 ho9
        obtain ⟨A9, c9, rfl⟩ := own1_form ho9
        have k9 : w9.cell? ⟨R, 3, none⟩ = some (.slice As i csm) := (hg9.cell_far ⟨R, 3, none⟩ hrl5 (HN2.out.blk.ne_ownN HN2.out.spo (by decide))).trans c3
        have f9 : w9.frozen? ⟨R, 3, none⟩ = false := (hg9.frozen_far ⟨R, 3, none⟩ hrl5 (HN2.out.blk.ne_ownN HN2.out.spo (by decide))).trans f3
        have HN3 := Lib.hid hN3
        clear hN3 ho9 hg9 c3 f3 HN2
        go_wp2_with fail
        go_roundw
        case rel => exact ⟨i + 1, by have := HLT.out; omega, by go_num, _, _, HN3.out⟩
        case measure => simp [intOf] <;> (have := HLT.out; omega)
    · obtain rfl : nb = i := by omega
      have hF : Q (.returned (.tuple #[.pointer (some ⟨R, 0, none⟩), .int .i64 0])) wr := by
        rw [EQ.out]
        exact ⟨R, _, rfl, hN.rep h1 h2 HS.out, fun b hb => hb.1, hN.bel⟩
      have HF := Lib.hid hF
      clear hF hN
      go_wp2_with fail
      first | exact HF.out | (go_ret2; exact HF.out)
end Go.Proofs.YtigfcoibbmndpaaGreat
/- Load, and what New and Load refuse: the program's. -/
namespace Go.Proofs.YtigfcoibbmndpaaGreat
open Go.RowKit
open Go.ChangeMaps
set_option linter.unusedVariables false
set_option linter.unusedSimpArgs false
/-- The disk that Load gives. -/
def loadS (nb sz : Nat) (xs : List Int) : DSt := { newS nb sz with dur := fun k => (xs.drop (k * sz)).take sz }
theorem loadS_wf {nb sz : Nat} {xs : List Int} (h1 : 1 ≤ nb) (h2 : nb ≤ 8192) (hs : Size sz) (hl : xs.length = nb * sz) : DWf (loadS nb sz xs) := by
  have h := newS_wf h1 h2 hs
  refine ⟨h.nb1, h.nb2, h.sz0, h.sz1, fun k hk => ?_, h.cl, h.cn, h.f0, h.f1⟩
  show ((xs.drop (k * sz)).take sz).length = sz
  have hfit : k * sz + sz ≤ nb * sz := by rw [← Nat.succ_mul]; exact Nat.mul_le_mul_right sz hk
  rw [List.length_take, List.length_drop]
  omega
theorem loadS_durF {nb sz : Nat} {xs : List Int} (hs : 0 < sz) (i : Nat) : durF (loadS nb sz xs) i = xs.getD i 0 := by
  show ((xs.drop (i / sz * sz)).take sz).getD (i % sz) 0 = _
  simp only [List.getD_eq_getElem?_getD]
  rw [List.getElem?_take, if_pos (Nat.mod_lt i hs), List.getElem?_drop, Nat.div_add_mod']
theorem splice_full (zs : List Int) (cur : List Value) (hc : cur.length = zs.length) : splice cur 0 (zs.map (Value.int .u8)) = zs.map (Value.int .u8) := by
  unfold splice
  rw [List.take_zero, List.nil_append, Nat.zero_add, List.length_map, List.drop_eq_nil_of_le (by omega), List.append_nil]
theorem DRepX.loaded {w w1 : World} {d m c B ms mc nb sz : Nat} {F : Int → Option Value} {G : Nat → Prop} {xs : List Int} (h : DRepX w d m c B ms mc F G (newS nb sz)) (h1 : 1 ≤ nb) (h2 : nb ≤ 8192) (hs : Size sz) (hl : xs.length = nb * sz)
    (hrow : RowA .u8 5 w1 B (nb * sz) (fun i => xs.getD i 0)) (hfar : ∀ b, b ≠ B → w1.heap[b]? = w.heap[b]?) (hz : w1.heap.size = w.heap.size) : DRepX w1 d m c B ms mc F G (loadS nb sz xs) := by
  have h0 : 0 < sz := by unfold Size at hs; omega
  have hdB : B ≠ d := h.med.row.ne_blk h.blk (by decide)
  have hmB : B ≠ m := h.med.row.ne_blk h.med.blk (by decide)
  have hcB : B ≠ c := h.med.row.ne_blk h.cac.blk (by decide)
  have hsB : B ≠ ms := h.med.row.ne_map h.med.map
  have hmcB : B ≠ mc := h.med.row.ne_map h.cac.map
  refine ⟨loadS_wf h1 h2 hs hl, (hfar d (fun e => hdB e.symm)).trans h.blk, ⟨(hfar m (fun e => hmB e.symm)).trans h.med.blk, ?_, ?_⟩, ?_, ?_, h.ne, fun b hb => ?_⟩
  · exact hrow.congr (fun i hi => (loadS_durF h0 i).symm)
  · exact h.med.map.keep (hfar ms (fun e => hsB e.symm))
  · exact h.cac.keep (hfar c (fun e => hcB e.symm)) (hfar mc (fun e => hmcB e.symm))
  · refine ⟨h.car.no, fun j v hj => ?_, h.car.inj⟩
    obtain ⟨a, b, g, hg⟩ := h.car.yes j v hj
    exact ⟨a, b, g, hg.keep (fun b hb => hfar b (fun e => (h.apart b hb).2.2.2.2.1 e)) (fun _ h => h)⟩
  · rw [hz]; exact h.apart b hb
def LoadQ (w : World) (nb sz : Nat) (xs : List Int) (e : Ending) (w' : World) : Prop :=
  ∃ d O, e = .returned (.tuple #[.pointer (some ⟨d, 0, none⟩), .int .i64 0]) ∧ DRep O w' d (loadS nb sz xs) ∧ (∀ b, O b → w.heap.size ≤ b) ∧ Below w.heap.size w w'
set_option maxHeartbeats 2000000 in
set_option maxRecDepth 100000 in
theorem load_ok (w : World) (nb sz : Nat) (v : Value) (xs : List Int) (h1 : 1 ≤ nb) (h2 : nb ≤ 8192) (hs : Size sz) (hr : Rd .u8 w v xs) (hl : xs.length = nb * sz) :
    Calls Tryz.prog 17 #[.int .i64 nb, .int .i64 sz, v] w (LoadQ w nb sz xs) := by
  obtain ⟨Q, eQ⟩ : ∃ Q, Q = LoadQ w nb sz xs := ⟨_, rfl⟩
  rw [← eQ]
  have EQ := Lib.hid eQ
  clear eQ
  obtain ⟨A, c0, rfl⟩ := hr.slice
  obtain ⟨M, eM⟩ : ∃ M, M = nb * sz := ⟨_, rfl⟩
  have hsz : 0 < sz ∧ sz ≤ 1024 := by unfold Size at hs; omega
  have hM : M ≤ 8388608 := by
    rw [eM]
    exact Nat.le_trans (Nat.mul_le_mul h2 hsz.2) (by decide)
  have hM0 : 0 < M := by rw [eM]; exact Nat.mul_pos h1 hsz.1
  have m1 : (nb : Int) * (sz : Int) = (M : Int) := by rw [eM]; exact (Int.natCast_mul _ _).symm
  have m2 : IntKind.i64.wrap ((nb : Int) * (sz : Int)) = (M : Int) := by rw [m1]; exact IntWalk.i64_in _ (by omega)
  rw [hl, ← eM]
  have EM := Lib.hid eM
  have HL := Lib.hid (hl.trans eM.symm)
  have HR := Lib.hid hr
  have HS := Lib.hid hs
  have HN := Lib.hid (new_ok w nb sz h1 h2 hs)
  clear eM hl hr hs hsz
  go_enter Tryz.func17, Tryz.ntmps17
  go_wp2_with fail
  refine HN.out.mono ?_
  rintro e w1 ⟨d, O, rfl, hdr, hO, hb1⟩
  obtain ⟨m, c, B, ms, mc, F, G, hx, hown, hlt⟩ := hdr
  have c2 : w1.cell? ⟨d, 2, none⟩ = some (.pointer (some ⟨m, 0, none⟩)) := hx.blk.cell 2
  have c1 : w1.cell? ⟨m, 1, none⟩ = some (.slice (some ⟨B, 0, none⟩) M M) := by rw [EM.out]; exact hx.med.blk.cell 1
  have hBO : O B := hown B (.inr (.inr (.inr (.inl rfl))))
  obtain ⟨cur, hcb, hcl, hcr⟩ := row_splice (w := w1) (p := 0) (by have := hx.med.row; exact this) xs (by rw [HL.out, EM.out]; exact Nat.le_of_eq (Nat.zero_add _))
  obtain ⟨b, off, rfl, hbb, hsrc⟩ : ∃ b off, A = some ⟨b, off, none⟩ ∧ b < w.heap.size ∧ ∀ j v, (xs.map (Value.int .u8))[j]? = some v → w1.cell? ((⟨b, off, none⟩ : Addr).add j) = some v := by
    rcases HR.out with ⟨h0, _⟩ | ⟨b, off, c, e, g1, g2, g3, g4⟩
    · have := HL.out; rw [h0] at this; simp at this; omega
    · simp only [Value.slice.injEq] at e
      refine ⟨b, off, e.1, g3, fun j v hj => ?_⟩
      have hj' : j < xs.length := by have := (List.getElem?_eq_some_iff.1 hj).1; simpa using this
      rw [Go.WideShapes.add_plain]
      rw [List.getElem?_map, List.getElem?_eq_getElem hj'] at hj
      have := g4 j hj'
      rw [List.getD_eq_getElem?_getD, List.getElem?_eq_getElem hj'] at this
      exact ((cell_of_heap (hb1.block b g3) (off + j)).trans this).trans hj
  have hend : Q (.returned (.tuple #[.pointer (some ⟨d, 0, none⟩), .int .i64 0])) (w1.setRow B (splice cur 0 (xs.map (Value.int .u8))).toArray) := by
    rw [EQ.out]
    have hbB : w.heap.size ≤ B := hO B hBO
    have honly : OnlyP (fun x => x = B) w1 (w1.setRow B (splice cur 0 (xs.map (Value.int .u8))).toArray) := OnlyP.setRow (OnlyP.refl (fun x => x = B) w1) (.inl rfl) _
    have hx2 := hx.loaded (w1 := w1.setRow B (splice cur 0 (xs.map (Value.int .u8))).toArray) (xs := xs) h1 h2 HS.out (by rw [HL.out, EM.out])
      (hcr.congr (fun i hi => by unfold layF; rw [if_pos ⟨Nat.zero_le _, by rw [Nat.zero_add, HL.out, EM.out]; exact hi⟩, Nat.sub_zero]))
      (fun x hx => heap_setRow _ B x _ hx) (by simp [World.setRow])
    refine ⟨d, O, rfl, ⟨m, c, B, ms, mc, F, G, hx2, hown, fun x hx => Nat.lt_of_lt_of_le (hlt x hx) honly.size⟩, hO, hb1.trans (honly.below hb1.size (fun x hx => by rw [hx]; exact hbB))⟩
  have HE := Lib.hid hend
  have HCB := Lib.hid hcb
  have HCL := Lib.hid hcl
  have HSRC := Lib.hid hsrc
  have HE2 : Hid (∀ w2, w2 = w1.setRow B (splice cur 0 (xs.map (Value.int .u8))).toArray → Q (.returned (.tuple #[.pointer (some ⟨d, 0, none⟩), .int .i64 0])) w2) := Lib.hid (fun w2 h => by rw [h]; exact HE.out)
  clear hend hcb hcl hcr hsrc hx hown hlt hO hb1 HN HE
  go_wp2_with (refine wpList_copy_exact _ rfl (.tmp 31) (.tmp 32) 22 22 rfl 5 Tryz.underlying22 hd_size5 B 0 ⟨b, off, none⟩ _ _ _ _ rfl rfl cur 5 HCB.out (xs.map (Value.int .u8)) ?c1 HSRC.out ?c3 ?c4 ?_)
  case c1 => rw [List.length_map, HL.out]; exact (Nat.min_self M).symm
  case c3 => rw [List.length_map, HL.out, HCL.out, EM.out]; exact Nat.le_of_eq (Nat.zero_add _)
  case c4 => intro x hx; simp only [List.mem_map] at hx; obtain ⟨y, _, rfl⟩ := hx; rfl
  obtain ⟨w2, ew2⟩ : ∃ w2, w2 = w1.setRow B (splice cur 0 (xs.map (Value.int .u8))).toArray := ⟨_, rfl⟩
  have HF := Lib.hid (HE2.out w2 ew2)
  rw [← ew2]
  clear ew2 HE2 c1 c2
  go_wp2_with fail
  first | exact HF.out | (go_ret2; exact HF.out)
/-- Sizes that a disk may have. -/
def Use (nb sz : Int) : Prop := 1 ≤ nb ∧ nb ≤ 8192 ∧ (sz = 128 ∨ sz = 256 ∨ sz = 512 ∨ sz = 1024)
def BadQ (w : World) (x : Int) (e : Ending) (w' : World) : Prop := e = .returned (.tuple #[.pointer none, .int .i64 x]) ∧ Below w.heap.size w w'
set_option maxHeartbeats 2000000 in
set_option maxRecDepth 100000 in
theorem new_bad (w : World) (nb sz : Int) (h : ¬ Use nb sz) :
    Calls Tryz.prog 21 #[.int .i64 nb, .int .i64 sz] w (BadQ w 1) := by
  have hc : nb < 1 ∨ (¬ nb < 1 ∧ 8192 < nb) ∨ (¬ nb < 1 ∧ ¬ 8192 < nb ∧ sz ≠ 128 ∧ sz ≠ 256 ∧ sz ≠ 512 ∧ sz ≠ 1024) := by unfold Use at h; omega
  clear h
  rcases hc with h1 | ⟨h1, h2⟩ | ⟨h1, h2, h3, h4, h5, h6⟩
  · have t1 : decide (nb < 1) = true := decide_eq_true h1
    clear h1
    go_enter Tryz.func21, Tryz.ntmps21
    go_wp2_with fail
    go_ret2
    exact ⟨rfl, Below.refl _ _⟩
  · have t1 : decide (nb < 1) = false := decide_eq_false h1
    have t2 : decide (8192 < nb) = true := decide_eq_true h2
    clear h1 h2
    go_enter Tryz.func21, Tryz.ntmps21
    go_wp2_with fail
    go_ret2
    exact ⟨rfl, Below.refl _ _⟩
  · have t1 : decide (nb < 1) = false := decide_eq_false h1
    have t2 : decide (8192 < nb) = false := decide_eq_false h2
    have t3 : (sz == 128) = false := by simpa using h3
    have t4 : (sz == 256) = false := by simpa using h4
    have t5 : (sz == 512) = false := by simpa using h5
    have t6 : (sz == 1024) = false := by simpa using h6
    clear h1 h2 h3 h4 h5 h6
    go_enter Tryz.func21, Tryz.ntmps21
    go_wp2_with fail
    go_ret2
    exact ⟨rfl, Below.refl _ _⟩
set_option maxHeartbeats 2000000 in
set_option maxRecDepth 100000 in
theorem load_bad (w : World) (nb sz : Int) (A : Option Addr) (n c : Nat) (h : ¬ Use nb sz) :
    Calls Tryz.prog 17 #[.int .i64 nb, .int .i64 sz, .slice A n c] w (BadQ w 1) := by
  have HN := Lib.hid (new_bad w nb sz h)
  clear h
  go_enter Tryz.func17, Tryz.ntmps17
  go_wp2_with fail
  refine HN.out.mono ?_
  rintro e w1 ⟨rfl, hb⟩
  have HB := Lib.hid hb
  clear hb
  go_wp2_with fail
  go_ret2
  exact ⟨rfl, HB.out⟩
set_option maxHeartbeats 2000000 in
set_option maxRecDepth 100000 in
theorem load_size (w : World) (nb sz : Nat) (A : Option Addr) (n c : Nat) (h1 : 1 ≤ nb) (h2 : nb ≤ 8192) (hs : Size sz) (hl : n ≠ nb * sz) :
    Calls Tryz.prog 17 #[.int .i64 nb, .int .i64 sz, .slice A n c] w (BadQ w 3) := by
  have HN := Lib.hid (new_ok w nb sz h1 h2 hs)
  have hsz : 0 < sz ∧ sz ≤ 1024 := by unfold Size at hs; omega
  obtain ⟨M, eM⟩ : ∃ M, M = nb * sz := ⟨_, rfl⟩
  have hM : M ≤ 8388608 := by
    rw [eM]
    exact Nat.le_trans (Nat.mul_le_mul h2 hsz.2) (by decide)
  have m1 : (nb : Int) * (sz : Int) = (M : Int) := by rw [eM]; exact (Int.natCast_mul _ _).symm
  have m2 : IntKind.i64.wrap ((nb : Int) * (sz : Int)) = (M : Int) := by rw [m1]; exact IntWalk.i64_in _ (by omega)
  have hnm : n ≠ M := by rw [eM]; exact hl
  have t1 : ((n : Int) != (M : Int)) = true := by simp; omega
  clear hl eM hs hsz m1 hnm
  go_enter Tryz.func17, Tryz.ntmps17
  go_wp2_with fail
  refine HN.out.mono ?_
  rintro e w1 ⟨d, O, rfl, hdr, hO, hb1⟩
  have HB := Lib.hid hb1
  clear hdr hO hb1
  go_wp2_with fail
  go_ret2
  exact ⟨rfl, HB.out⟩
end Go.Proofs.YtigfcoibbmndpaaGreat
/- Load, and what New and Load refuse: the reference's. -/
namespace Go.Proofs.YtigfcoibbmndpaaGreat
open Go.RowKit
open Go.ChangeMaps
set_option linter.unusedVariables false
set_option linter.unusedSimpArgs false
def SzB (sz : Int) : Bool := decide (sz = 128 ∨ sz = 256 ∨ sz = 512 ∨ sz = 1024)
theorem sizesB_ok (w : World) (x : Int) : Calls Tryz.prog 28 #[.int .i64 x] w fun e w' => e = .returned (.bool (SzB x)) ∧ w = w' := sizes_ok w x
set_option maxHeartbeats 2000000 in
set_option maxRecDepth 100000 in
theorem rnew_bad (w : World) (nb sz : Int) (h : ¬ Use nb sz) :
    Calls Tryz.prog 22 #[.int .i64 nb, .int .i64 sz] w (BadQ w 1) := by
  have hc : nb < 1 ∨ (¬ nb < 1 ∧ 8192 < nb) ∨ (¬ nb < 1 ∧ ¬ 8192 < nb ∧ SzB sz = false) := by
    unfold Use at h; unfold SzB; simp only [decide_eq_false_iff_not]; omega
  have HSI := Lib.hid (sizesB_ok w sz)
  clear h
  obtain ⟨b, eb⟩ : ∃ b, b = SzB sz := ⟨_, rfl⟩
  rw [← eb] at hc HSI
  clear eb
  rcases hc with h1 | ⟨h1, h2⟩ | ⟨h1, h2, rfl⟩
  · have t1 : decide (nb < 1) = true := decide_eq_true h1
    clear h1
    go_enter Tryz.func22, Tryz.ntmps22
    go_wp2_with fail
    refine HSI.out.mono ?_
    rintro e w' ⟨rfl, rfl⟩
    go_wp2_with fail
    go_ret2
    exact ⟨rfl, Below.refl _ _⟩
  · have t1 : decide (nb < 1) = false := decide_eq_false h1
    have t2 : decide (8192 < nb) = true := decide_eq_true h2
    clear h1 h2
    go_enter Tryz.func22, Tryz.ntmps22
    go_wp2_with fail
    refine HSI.out.mono ?_
    rintro e w' ⟨rfl, rfl⟩
    go_wp2_with fail
    go_ret2
    exact ⟨rfl, Below.refl _ _⟩
  · have t1 : decide (nb < 1) = false := decide_eq_false h1
    have t2 : decide (8192 < nb) = false := decide_eq_false h2
    clear h1 h2
    go_enter Tryz.func22, Tryz.ntmps22
    go_wp2_with fail
    refine HSI.out.mono ?_
    rintro e w' ⟨rfl, rfl⟩
    go_wp2_with fail
    go_ret2
    exact ⟨rfl, Below.refl _ _⟩
set_option maxHeartbeats 2000000 in
set_option maxRecDepth 100000 in
theorem rload_bad (w : World) (nb sz : Int) (A : Option Addr) (n c : Nat) (h : ¬ Use nb sz) :
    Calls Tryz.prog 19 #[.int .i64 nb, .int .i64 sz, .slice A n c] w (BadQ w 1) := by
  have hc : nb < 1 ∨ (¬ nb < 1 ∧ 8192 < nb) ∨ (¬ nb < 1 ∧ ¬ 8192 < nb ∧ SzB sz = false) := by
    unfold Use at h; unfold SzB; simp only [decide_eq_false_iff_not]; omega
  have HSI := Lib.hid (sizesB_ok w sz)
  clear h
  obtain ⟨b, eb⟩ : ∃ b, b = SzB sz := ⟨_, rfl⟩
  rw [← eb] at hc HSI
  clear eb
  rcases hc with h1 | ⟨h1, h2⟩ | ⟨h1, h2, rfl⟩
  · have t1 : decide (nb < 1) = true := decide_eq_true h1
    clear h1
    go_enter Tryz.func19, Tryz.ntmps19
    go_wp2_with fail
    refine HSI.out.mono ?_
    rintro e w' ⟨rfl, rfl⟩
    go_wp2_with fail
    go_ret2
    exact ⟨rfl, Below.refl _ _⟩
  · have t1 : decide (nb < 1) = false := decide_eq_false h1
    have t2 : decide (8192 < nb) = true := decide_eq_true h2
    clear h1 h2
    go_enter Tryz.func19, Tryz.ntmps19
    go_wp2_with fail
    refine HSI.out.mono ?_
    rintro e w' ⟨rfl, rfl⟩
    go_wp2_with fail
    go_ret2
    exact ⟨rfl, Below.refl _ _⟩
  · have t1 : decide (nb < 1) = false := decide_eq_false h1
    have t2 : decide (8192 < nb) = false := decide_eq_false h2
    clear h1 h2
    go_enter Tryz.func19, Tryz.ntmps19
    go_wp2_with fail
    refine HSI.out.mono ?_
    rintro e w' ⟨rfl, rfl⟩
    go_wp2_with fail
    go_ret2
    exact ⟨rfl, Below.refl _ _⟩
set_option maxHeartbeats 2000000 in
set_option maxRecDepth 100000 in
theorem rload_size (w : World) (nb sz : Nat) (A : Option Addr) (n c : Nat) (h1 : 1 ≤ nb) (h2 : nb ≤ 8192) (hs : Size sz) (hl : n ≠ nb * sz) :
    Calls Tryz.prog 19 #[.int .i64 nb, .int .i64 sz, .slice A n c] w (BadQ w 3) := by
  have hsz : 0 < sz ∧ sz ≤ 1024 := by unfold Size at hs; omega
  have hsd : SzB (sz : Int) = true := by unfold SzB; exact decide_eq_true (by unfold Size at hs; omega)
  have HSI := Lib.hid (sizesB_ok w sz)
  rw [hsd] at HSI
  obtain ⟨M, eM⟩ : ∃ M, M = nb * sz := ⟨_, rfl⟩
  have hM : M ≤ 8388608 := by
    rw [eM]
    exact Nat.le_trans (Nat.mul_le_mul h2 hsz.2) (by decide)
  have m1 : (nb : Int) * (sz : Int) = (M : Int) := by rw [eM]; exact (Int.natCast_mul _ _).symm
  have m2 : IntKind.i64.wrap ((nb : Int) * (sz : Int)) = (M : Int) := by rw [m1]; exact IntWalk.i64_in _ (by omega)
  have hnm : n ≠ M := by rw [eM]; exact hl
  have t0 : ((n : Int) != (M : Int)) = true := by simp; omega
  have t1 : decide ((nb : Int) < 1) = false := decide_eq_false (by omega)
  have t2 : decide ((8192 : Int) < (nb : Int)) = false := decide_eq_false (by omega)
  clear hl eM hs hsz m1 hnm hsd
  go_enter Tryz.func19, Tryz.ntmps19
  go_wp2_with fail
  refine HSI.out.mono ?_
  rintro e w' ⟨rfl, rfl⟩
  go_wp2_with fail
  go_ret2
  exact ⟨rfl, Below.refl _ _⟩
/-- A load under way: the first i blocks hold their bytes. -/
def ldS (nb sz : Nat) (xs : List Int) (i : Nat) : DSt := { newS nb sz with dur := fun k => if k < i then (xs.drop (k * sz)).take sz else List.replicate sz 0 }
theorem ldS_zero (nb sz : Nat) (xs : List Int) : ldS nb sz xs 0 = newS nb sz := dst_ext rfl rfl (fun k => by show (if k < 0 then (xs.drop (k * sz)).take sz else List.replicate sz 0) = _; rw [if_neg (by omega)]; rfl) (fun _ => rfl) (fun _ => rfl) rfl rfl rfl rfl rfl rfl rfl
theorem ldS_succ (nb sz : Nat) (xs : List Int) (i : Nat) : { ldS nb sz xs i with dur := layD (ldS nb sz xs i).dur i ((xs.drop (i * sz)).take sz) } = ldS nb sz xs (i + 1) := by
  refine dst_ext rfl rfl (fun k => ?_) (fun _ => rfl) (fun _ => rfl) rfl rfl rfl rfl rfl rfl rfl
  show layD (ldS nb sz xs i).dur i ((xs.drop (i * sz)).take sz) k = if k < i + 1 then _ else _
  unfold layD
  by_cases e : k = i
  · subst e; rw [if_pos rfl, if_pos (by omega)]
  · rw [if_neg e]
    show (if k < i then _ else _) = _
    by_cases h : k < i
    · rw [if_pos h, if_pos (by omega)]
    · rw [if_neg h, if_neg (by omega)]
theorem rd_part {w : World} {b off c p m : Nat} {xs : List Int} (h : Rd .u8 w (.slice (some ⟨b, off, none⟩) xs.length c) xs) (hp : p + m ≤ xs.length) (h0 : 0 < m) : Rd .u8 w (.slice (some ⟨b, off + p, none⟩) m (c - p)) ((xs.drop p).take m) := by
  have hlen : ((xs.drop p).take m).length = m := by rw [List.length_take, List.length_drop]; omega
  rcases h with ⟨h, _⟩ | ⟨b', off', c', e, g1, g2, g3, g4⟩
  · rw [h] at hp; simp at hp; omega
  · simp only [Value.slice.injEq, Option.some.injEq, Addr.mk.injEq] at e
    obtain ⟨⟨rfl, rfl, _⟩, _, rfl⟩ := e
    refine .inr ⟨b, off + p, c - p, by rw [hlen], by omega, by omega, g3, fun i hi => ?_⟩
    rw [hlen] at hi
    rw [Nat.add_assoc, g4 (p + i) (by omega), List.getD_eq_getElem?_getD, List.getD_eq_getElem?_getD, List.getElem?_take, if_pos hi, List.getElem?_drop]
def RLoadQ (w : World) (nb sz : Nat) (xs : List Int) (e : Ending) (w' : World) : Prop :=
  ∃ r P, e = .returned (.tuple #[.pointer (some ⟨r, 0, none⟩), .int .i64 0]) ∧ RRep P w' r (loadS nb sz xs) (-1) 0 ∧ (∀ b, P b → w.heap.size ≤ b) ∧ Below w.heap.size w w'
set_option maxHeartbeats 8000000 in
set_option maxRecDepth 100000 in
theorem rload_ok (w : World) (nb sz : Nat) (v : Value) (xs : List Int) (h1 : 1 ≤ nb) (h2 : nb ≤ 8192) (hs : Size sz) (hr : Rd .u8 w v xs) (hl : xs.length = nb * sz) :
    Calls Tryz.prog 19 #[.int .i64 nb, .int .i64 sz, v] w (RLoadQ w nb sz xs) := by
  obtain ⟨Q, eQ⟩ : ∃ Q, Q = RLoadQ w nb sz xs := ⟨_, rfl⟩
  rw [← eQ]
  have EQ := Lib.hid eQ
  have hsz : 0 < sz ∧ sz ≤ 1024 := by unfold Size at hs; omega
  obtain ⟨hsz0, hsz1⟩ := hsz
  have hsd : SzB (sz : Int) = true := by unfold SzB; exact decide_eq_true (by unfold Size at hs; omega)
  have HSI := Lib.hid (sizesB_ok w sz)
  rw [hsd] at HSI
  obtain ⟨M, eM⟩ : ∃ M, M = nb * sz := ⟨_, rfl⟩
  have hM : M ≤ 8388608 := by
    rw [eM]
    exact Nat.le_trans (Nat.mul_le_mul h2 hsz1) (by decide)
  have hM0 : 0 < M := by rw [eM]; exact Nat.mul_pos h1 hsz0
  have m1 : (nb : Int) * (sz : Int) = (M : Int) := by rw [eM]; exact (Int.natCast_mul _ _).symm
  have m2 : IntKind.i64.wrap ((nb : Int) * (sz : Int)) = (M : Int) := by rw [m1]; exact IntWalk.i64_in _ (by omega)
  have t0 : ((M : Int) != (M : Int)) = false := by simp
  have t1 : decide ((nb : Int) < 1) = false := decide_eq_false (by omega)
  have t2 : decide ((8192 : Int) < (nb : Int)) = false := decide_eq_false (by omega)
  have HLN := Lib.hid (hl.trans eM.symm)
  have EM := Lib.hid eM
  obtain ⟨b, off, c, rfl, hrb⟩ : ∃ b off c, v = .slice (some ⟨b, off, none⟩) M c ∧ M ≤ c ∧ b < w.heap.size := by
    rcases hr with ⟨h, _⟩ | ⟨b, off, c, e, g1, g2, g3, g4⟩
    · rw [h] at hl; simp at hl; omega
    · exact ⟨b, off, c, by rw [e, hl, ← eM], by rw [eM, ← hl]; exact g2, g3⟩
  obtain ⟨hMc, hbl⟩ := hrb
  have HR : Hid (Rd .u8 w (.slice (some ⟨b, off, none⟩) xs.length c) xs) := Lib.hid (by rw [HLN.out]; exact hr)
  have HN := Lib.hid (rnew_ok w nb sz h1 h2 hs)
  have HSZ := Lib.hid hs
  clear eQ hl eM hr hs m1 hsd
  go_enter Tryz.func19, Tryz.ntmps19
  go_wp2_with fail
  refine HSI.out.mono ?_
  rintro e w' ⟨rfl, rfl⟩
  go_wp2_with fail
  refine HN.out.mono ?_
  rintro e w1 ⟨r, P0, rfl, hrep, hP0, hb1⟩
  obtain ⟨Bm, Bs, cm, cs, vc, G, C, hx, hPo, hlt, hn⟩ := hrep
  have hC : C = [] := List.eq_nil_of_length_eq_zero (Nat.le_zero.1 hn)
  subst hC
  have hB0 : w.heap.size ≤ Bm := hP0 Bm (hPo Bm (.inr (.inl rfl)))
  have HX := Lib.hid hx
  have HP0 := Lib.hid (fun b hb => hP0 b (hPo b hb))
  have HB1 := Lib.hid hb1
  clear hx hPo hlt hn hP0 hb1 HN HSI
  go_wp2_with fail
  clear t1 t2 t0 m2
  go_loopw [11] (fun b wr => ∃ i : Nat, i ≤ nb ∧ b = .int .i64 i ∧ ∃ G, RRepX wr r Bm Bs cm cs vc G (ldS nb sz xs i) [] (-1) ∧ (∀ b, ownR r Bm Bs G b → w.heap.size ≤ b) ∧ Below w.heap.size w wr) (fun b _ => nb - (intOf b).toNat)
  case atStart => exact ⟨0, Nat.zero_le _, rfl, G, by rw [ldS_zero]; exact HX.out, HP0.out, HB1.out⟩
  case round =>
    obtain ⟨i, hi, rfl, G, hx, hPo, hb⟩ := hrel
    by_cases hlt : i < nb
    · obtain ⟨p, ep⟩ : ∃ p, p = i * sz := ⟨_, rfl⟩
      have hfit : p + sz ≤ M := by
        rw [ep, EM.out, ← Nat.succ_mul]; exact Nat.mul_le_mul_right sz hlt
      have m0 : (i : Int) * (sz : Int) = (p : Int) := by rw [ep]; simp
      have m1 : IntKind.i64.wrap ((i : Int) * (sz : Int)) = (p : Int) := by rw [m0]; exact IntWalk.i64_in _ (by omega)
      have m2 : IntKind.i64.wrap ((i : Int) + 1) = (i : Int) + 1 := IntWalk.i64_in _ (by omega)
      have m3 : IntKind.i64.wrap (((i : Int) + 1) * (sz : Int)) = (p : Int) + (sz : Int) := by rw [Int.add_mul, m0, Int.one_mul]; exact IntWalk.i64_in _ (by omega)
      have m4 : ((p : Int) + (sz : Int)).toNat = p + sz := by omega
      have m5 : (0 : Int) ≤ (p : Int) + (sz : Int) := by omega
      have m6 : (p : Int) ≤ (p : Int) + (sz : Int) := by omega
      have m7 : (p : Int) + (sz : Int) ≤ (c : Int) := by omega
      have m8 : ¬ (c = p) := by omega
      have m9 : p + sz - p = sz := by omega
      have c2 : wr.cell? ⟨r, 2, none⟩ = some (.slice (some ⟨Bm, 0, none⟩) nb cm) := hx.blk.cell 2
      have hchunk : ((xs.drop p).take sz).length = sz := by rw [List.length_take, List.length_drop, HLN.out]; omega
      have hrd : Rd .u8 wr.drew (.slice (some ⟨b, off + p, none⟩) sz (c - p)) ((xs.drop p).take sz) :=
        rd_part (w := wr.drew) (HR.out.below (w1 := wr.drew) ⟨hb.os, hb.tape, hb.output, hb.size, hb.block⟩) (by rw [HLN.out]; exact hfit) hsz0
      have hcp : Calls Tryz.prog 29 #[.slice (some ⟨b, off + p, none⟩) sz (c - p)] wr.drew (fun e w' => ∃ B, e = .returned (.slice (some ⟨B, 0, none⟩) sz sz) ∧ wr.drew.heap.size ≤ B ∧ RowA .u8 5 w' B sz (fun i => ((xs.drop p).take sz).getD i 0) ∧ Below wr.drew.heap.size wr.drew w') := by
        refine (rcopy_ok wr.drew _ _ hrd (by rw [hchunk]; omega)).mono ?_
        rintro e w' ⟨B, rfl, a1, a2, a3⟩
        rw [hchunk] at a2 ⊢
        exact ⟨B, rfl, a1, a2, a3⟩
      obtain ⟨mcur, u1, u2, u3⟩ := hx.med
      obtain ⟨u, mu, _⟩ := u3 i hlt
      have HX2 := Lib.hid hx
      have HPO := Lib.hid hPo
      have HB := Lib.hid hb
      have HCP := Lib.hid hcp
      have HCH := Lib.hid hchunk
      have HFIT := Lib.hid hfit
      have HLT := Lib.hid hlt
      have EP := Lib.hid ep
      have HBM := Lib.hid u1.lt
      have HMK : Hid (wr.cell? ⟨Bm, i, none⟩ = some u) := Lib.hid ((u1.cell i).trans mu)
      have HMF : Hid (wr.frozen? ⟨Bm, i, none⟩ = false) := Lib.hid (u1.free i)
      clear hx hPo hb hchunk hrd hcp u1 u2 u3 mu m0 ep hfit
      go_wp2_with fail
      go_region_law (first
          | (go_simp; go_at_call 29; refine HCP.out.mono ?_; rintro e w4 ⟨hB, rfl, hhB, hrow, hb4⟩; have HHB := Lib.hid hhB; have HROW := Lib.hid hrow; have HB4 := Lib.hid (below_of_drew hb4); have k2 : w4.cell? ⟨r, 2, none⟩ = some (.slice (some ⟨Bm, 0, none⟩) nb cm) := (cell_of_heap (HB4.out.block r HX2.out.blk.lt) 2).trans c2; have km : w4.cell? ⟨Bm, i, none⟩ = some u := (cell_of_heap (HB4.out.block Bm HBM.out) i).trans HMK.out; have fm : w4.frozen? ⟨Bm, i, none⟩ = false := (HB4.out.frozen (p := ⟨Bm, i, none⟩) HBM.out).trans HMF.out; clear hhB hrow hb4))
      all_goals
        have hx5 := HX2.out.laidM (k := i) (xs := (xs.drop p).take sz) HLT.out HCH.out HB4.out HROW.out HHB.out
        have hx6 : RRepX (w4.setCell ⟨Bm, i, none⟩ (.slice (some ⟨hB, 0, none⟩) sz sz)) r Bm Bs cm cs vc (fun b => G b ∨ b = hB) (ldS nb sz xs (i + 1)) [] (-1) := by
          rw [← ldS_succ, ← EP.out]; exact hx5
        have hb6 : Below w.heap.size w (w4.setCell ⟨Bm, i, none⟩ (.slice (some ⟨hB, 0, none⟩) sz sz)) := (HB.out.trans (HB4.out.mono HB.out.size)).setCell hB0 _
        have hp6 : ∀ b, ownR r Bm Bs (fun b => G b ∨ b = hB) b → w.heap.size ≤ b := by
          rintro b (rfl | rfl | rfl | hG | rfl)
          · exact HPO.out _ (.inl rfl)
          · exact hB0
          · exact HPO.out _ (.inr (.inr (.inl rfl)))
          · exact HPO.out b (.inr (.inr (.inr hG)))
          · exact Nat.le_trans HB.out.size HHB.out
        have HX6 := Lib.hid hx6
        have HB6 := Lib.hid hb6
        have HP6 := Lib.hid hp6
        clear hx5 hx6 hb6 hp6 k2 km fm HROW HB4 HHB c2 HCP
        go_wp2_with fail
        go_roundw
        case rel => exact ⟨i + 1, by have := HLT.out; omega, by go_num, _, HX6.out, HP6.out, HB6.out⟩
        case measure => simp [intOf] <;> (have := HLT.out; omega)
    · obtain rfl : nb = i := by omega
      have hF : Q (.returned (.tuple #[.pointer (some ⟨r, 0, none⟩), .int .i64 0])) wr := by
        rw [EQ.out]
        have hS : ldS nb sz xs nb = { loadS nb sz xs with dur := (ldS nb sz xs nb).dur } := rfl
        refine ⟨r, fun b => w.heap.size ≤ b ∧ b < wr.heap.size, rfl, ⟨Bm, Bs, cm, cs, vc, G, [], ?_, fun b hb' => ⟨hPo b hb', hx.lts b hb'⟩, fun b hb' => hb'.2, Nat.le_refl _⟩, fun b hb' => hb'.1, hb⟩
        refine ⟨loadS_wf h1 h2 HSZ.out (by rw [HLN.out, EM.out]), hx.blk, ?_, hx.spo, hx.cac, hx.rel, hx.inr, hx.vco, hx.apart, hx.ne⟩
        obtain ⟨mcur, u1, u2, u3⟩ := hx.med
        refine ⟨mcur, u1, u2, fun k hk => ?_⟩
        obtain ⟨v, a, b⟩ := u3 k hk
        refine ⟨v, a, ?_⟩
        have hk' : k < nb := hk
        have e9 : (ldS nb sz xs nb).dur k = (loadS nb sz xs).dur k := by
          show (if k < nb then _ else _) = _
          rw [if_pos hk']; rfl
        rw [← e9]; exact b
      have HF := Lib.hid hF
      clear hF hx hPo hb
      go_wp2_with fail
      first | exact HF.out | (go_ret2; exact HF.out)
end Go.Proofs.YtigfcoibbmndpaaGreat
