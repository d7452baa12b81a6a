/- The reader's slots. -/
import Derived.Test.YtbfebfeliddpnaaDoorPrG
import Derived.Laws.MakeOwn
import Derived.Outline
namespace Go.Proofs.YtbfebfeliddpnaaDoor
open Go.RowKit
open Go.ChangeMaps
set_option linter.unusedVariables false
set_option linter.unusedSimpArgs false
theorem info_int : (Tryd.prog.info? 3).map (fun i => (i.zero, i.size, i.bytes)) = some (some (.int .i64 0), 1, 8) := by kernel_rfl
theorem own_keep2 {w w1 : World} {B : Nat} {e : TypeId} {n k : Nat} {v : Value} {xs : List Value} (h : w.ownsRow B e k v n xs) (hk : ∀ g, v.ownBlock = some g → w1.heap[g]? = w.heap[g]?) : w1.ownsRow B e k v n xs := by
  refine ⟨h.1, ?_⟩
  rcases h.2 with h | ⟨g, cap, cur, rfl, a1, a2, a3⟩
  · exact .inl h
  · exact .inr ⟨g, cap, cur, rfl, a1, (hk g rfl).trans a2, a3⟩
theorem own_only {O : Nat → Prop} {w w1 : World} {B : Nat} {e : TypeId} {n k : Nat} {v : Value} {xs : List Value} (h : w.ownsRow B e k v n xs) (ho : OnlyP O w w1) (hO : ∀ b, O b → b < B) : w1.ownsRow B e k v n xs :=
  own_keep2 h (fun g hg => ho.block g (h.lt g hg).2 (fun hc => by have := hO g hc; have := (h.lt g hg).1; omega))
/-- What the reader's list of slots is: in memory of its own. -/
def SlotsQ (w : World) (r : Nat) (s : ByteArray) (x : Except Nat (List Int × List Tk)) (e : Ending) (w' : World) : Prop :=
  OnlyP (fun b => b = r) w w' ∧ match x with
    | .error p => e = faultE p
    | .ok (vs, l) => ∃ v, e = .returned v ∧ w'.ownsRow w.heap.size 3 1 v vs.length (vs.map (Value.int .i64)) ∧ ∃ i, i ≤ s.size ∧ RdB w' r s i ∧ toks s i = l
theorem slot_semi (most : Nat) : slotF most bSemi = none := by
  unfold slotF
  rw [if_neg (by decide), num_semi]
set_option maxHeartbeats 8000000 in
set_option maxRecDepth 100000 in
theorem slots_ok (cnt most : Nat) (hc : cnt ≤ 16) (hm : most ≤ 65536) (w : World) (r : Nat) (s : ByteArray) (i0 : Nat) (h : RdB w r s i0) (hi : i0 ≤ s.size) (hs : s.size ≤ 65536) :
    Calls Tryd.prog 46 #[.pointer (some ⟨r, 0, none⟩), .int .i64 (cnt : Nat), .int .i64 (most : Nat)] w (SlotsQ w r s (slotsF s most cnt (toks s i0))) := by
  obtain ⟨X, eX⟩ : ∃ X, X = slotsF s most cnt (toks s i0) := ⟨_, rfl⟩
  rw [← eX]
  obtain ⟨Q, eQ⟩ : ∃ Q, Q = SlotsQ w r s X := ⟨_, rfl⟩
  rw [← eQ]
  have EQ := Lib.hid eQ
  have EX := Lib.hid eX
  obtain ⟨j0, hj0, hz0, hz1, hz2⟩ := info_parts info_int
  obtain ⟨wI, hrun, hoI, hgI⟩ := run_make_own (P := Tryd.prog) w w.heap.size 29 3 j0 (.int .i64 0) 1 Tryd.underlying29 hj0 hz0 hz1 .i64 .i64 cnt (by rw [hz2]; omega) (by unfold maxLen; omega) (Nat.le_refl _)
  have hbI : Below w.heap.size w wI := ⟨hgI.os, hgI.tape, hgI.output, hgI.size, fun b hb => hgI.block b hb (by simp)⟩
  have hrl : r < w.heap.size := Blk.lt h
  have HRI := Lib.hid (show RdB wI r s i0 from Blk.below h hbI hrl)
  have HBI := Lib.hid hbI
  have HOI := Lib.hid hoI
  clear eQ eX h hbI hgI hoI
  go_enter Tryd.func46, Tryd.ntmps46
  go_wp2_with fail
  clear hrun
  go_loopw [7, 8, 9, 10, 11, 15] (fun u _ _ _ _ kv wr => ∃ (k i : Nat) (vs : List Int), kv = .int .i64 (k : Nat) ∧ k ≤ cnt ∧ vs.length = k ∧ wr.ownsRow w.heap.size 3 1 u k (vs.map (Value.int .i64)) ∧ i ≤ s.size ∧ RdB wr r s i ∧ OnlyP (fun b => b = r) w wr ∧ X = (match slotsF s most (cnt - k) (toks s i) with | .error p => .error p | .ok (us, l) => .ok (vs ++ us, l))) (fun _ _ _ _ _ kv _ => cnt - (intOf kv).toNat)
  case atStart => exact ⟨0, i0, [], rfl, Nat.zero_le _, rfl, HOI.out, hi, HRI.out, OnlyP.ofBelow HBI.out, by rw [EX.out, Nat.sub_zero]; cases slotsF s most cnt (toks s i0) <;> rfl⟩
  case round =>
    obtain ⟨k, i, vs, rfl, hk, hvl, hown, hi1, hr, ho, hX⟩ := hrel
    have HOWN := Lib.hid hown
    have HO := Lib.hid ho
    have HX := Lib.hid hX
    have HVL := Lib.hid hvl
    have HG := Lib.hid (got_ok (slotF most) (slot_semi most) wr r s i hr hi1 hs)
    have HRr := Lib.hid hr
    clear hown ho hX hvl HOI HBI HRI
    by_cases hlt : k < cnt
    · clear hr
      go_wp2_with fail
      refine HG.out.mono ?_
      rintro e w1 ⟨ho1, ⟨x, a, en, rfl, h1, h2, h3, hr1, hv⟩ | ⟨p, rfl, hv⟩⟩
      · have hho := HO.out.then ho1
        have hown1 := own_only HOWN.out ho1 (fun b hb => by omega)
        have hXe : ∀ y, slotF most x = y → X = (match y with | none => .error a | some v => (match slotsF s most (cnt - (k + 1)) (toks s en) with | .error p => .error p | .ok (us, l) => .ok (vs ++ [v] ++ us, l))) := by
          rintro y rfl
          have h9 := HX.out
          rw [show cnt - k = (cnt - (k + 1)) + 1 by omega, slotsF, hv] at h9
          rw [h9]
          cases slotF most x with
          | none => rfl
          | some v =>
            simp only
            cases slotsF s most (cnt - (k + 1)) (toks s en) with
            | error p => rfl
            | ok q => simp
        have HXE := Lib.hid hXe
        have HOWN1 := Lib.hid hown1
        have HO1 := Lib.hid hho
        have HR1 := Lib.hid hr1
        obtain ⟨u, eu⟩ : ∃ u, u = vs.length := ⟨_, rfl⟩
        clear HG HX HOWN ho1 hho hown1 hr1 hv hXe
        have hcont : ∀ (v : Int) (w2 w3 : World) (v3 : Value), slotF most x = some v → OnlyP (fun b => b = r) w w2 → RdB w2 r s en → w2.ownsRow w.heap.size 3 1 u7 k (vs.map (Value.int .i64)) → w3.ownsRow w.heap.size 3 1 v3 (k + 1) (vs.map (Value.int .i64) ++ [.int .i64 v]) → w2.grownBy w3 u7.ownBlock →
            (∃ (k' i : Nat) (vs' : List Int), Value.int .i64 ((k : Int) + 1) = .int .i64 (k' : Nat) ∧ k' ≤ cnt ∧ vs'.length = k' ∧ w3.ownsRow w.heap.size 3 1 v3 k' (vs'.map (Value.int .i64)) ∧ i ≤ s.size ∧ RdB w3 r s i ∧ OnlyP (fun b => b = r) w w3 ∧ X = (match slotsF s most (cnt - k') (toks s i) with | .error p => .error p | .ok (us, l) => .ok (vs' ++ us, l))) := by
          intro v w2 w3 v3 hsv ho2 hr2 hown2 hown3 hg3
          have hlo : ∀ g, u7.ownBlock = some g → w.heap.size ≤ g := fun g hg => (hown2.lt g hg).1
          refine ⟨k + 1, en, vs ++ [v], by go_num, by omega, by rw [List.length_append, HVL.out]; rfl, by rw [List.map_append]; exact hown3, h1, ?_, ho2.grown hg3 (fun g hg => .inr (hlo g hg)), HXE.out _ hsv⟩
          exact (hg3.block r (Blk.lt hr2) (fun e => by have := hlo r e.symm; omega)).trans hr2
        have HC := Lib.hid hcont
        clear hcont eu
        by_cases hd : x = bDash
        · have hsv : slotF most x = some (-1) := by unfold slotF; rw [if_pos hd]
          have hxx : (x.toList == [45]) = true := by rw [hd, ByteArray.toList_eq]; rfl
          have HSV := Lib.hid hsv
          clear hd hsv
          have HSZ := Lib.hid HO1.out.size
          go_wp2_with (with_reducible refine app1 rfl (.tmp 24) (.tmp 25) 29 rfl w.heap.size 3 (.int .i64 0) 8 Tryd.underlying29 info_int rfl u7 k (vs.map (Value.int .i64)) rfl HOWN1.out (.int .i64 (-1)) 1 rfl rfl ?c1 ?c2 ?c3 ?_)
          case c1 => unfold maxLen; omega
          case c2 => omega
          case c3 => exact HSZ.out
          intro v4 w4 ho4 hg4
          have hrel := HC.out (-1) _ w4 v4 HSV.out HO1.out HR1.out HOWN1.out ho4 hg4
          have HREL := Lib.hid hrel
          clear hrel ho4 hg4 HC HOWN1 HXE
          go_wp2_with fail
          go_roundw
          case rel => exact HREL.out
          case measure => simp [intOf]; omega
        · have hxx : (x.toList == [45]) = false := by
            have h9 := str_eq x bDash
            rw [decide_eq_false hd, show bDash.toList = [45] from by rw [ByteArray.toList_eq]; rfl] at h9
            exact h9
          have hdc := decimal_ok w1 x (by omega)
          have HDC := Lib.hid hdc
          have HD := Lib.hid hd
          clear hdc hd
          go_wp2_with fail
          refine HDC.out.mono ?_
          rintro e w2 ⟨ho2, v, ok, rfl, hn, hv64⟩
          have hO2 := HO1.out.none ho2
          have HSZ := Lib.hid hO2.size
          have HO2 := Lib.hid hO2
          have HR2 := Lib.hid (HR1.out.only ho2)
          have HOWN2 := Lib.hid (own_only HOWN1.out ho2 (fun b hb => hb.elim))
          have hbad : slotF most x = none → Q (faultE a) w2 := by
            intro hb
            rw [EQ.out]
            refine ⟨hO2, ?_⟩
            rw [HXE.out _ hb]
          have HBAD := Lib.hid hbad
          have hsl : slotF most x = (match numOf x with | some v => if v < most then some (v : Int) else none | none => none) := by unfold slotF; rw [if_neg HD.out]; cases numOf x <;> rfl
          rw [hn] at hsl
          have HSL := Lib.hid hsl
          clear HDC HD ho2 hO2 hbad hn hsl
          cases ok
          · have HF := Lib.hid (HBAD.out HSL.out)
            clear HSL
            go_wp2_with fail
            first | exact HF.out | exact ⟨rfl, HF.out⟩
          · by_cases hvm : v < most
            · have HSV := Lib.hid (show slotF most x = some (v : Int) by have h9 := HSL.out; simp only [if_true] at h9; rw [if_pos hvm] at h9; exact h9)
              have d1 : decide (most ≤ v) = false := decide_eq_false (by omega)
              clear HSL HBAD
              go_wp2_with (with_reducible refine app1 rfl (.tmp 42) (.tmp 45) 29 rfl w.heap.size 3 (.int .i64 0) 8 Tryd.underlying29 info_int rfl u7 k (vs.map (Value.int .i64)) rfl HOWN2.out (.int .i64 (v : Int)) 1 rfl rfl ?d1 ?d2 ?d3 ?_)
              case d1 => unfold maxLen; omega
              case d2 => omega
              case d3 => exact HSZ.out
              intro v4 w4 ho4 hg4
              have hrel := HC.out (v : Int) _ w4 v4 HSV.out HO2.out HR2.out HOWN2.out ho4 hg4
              have HREL := Lib.hid hrel
              clear hrel ho4 hg4 HC HOWN1 HXE
              go_wp2_with fail
              go_roundw
              case rel => exact HREL.out
              case measure => simp [intOf]; omega
            · have HF := Lib.hid (HBAD.out (by have h9 := HSL.out; simp only [if_true] at h9; rw [if_neg hvm] at h9; exact h9))
              have d1 : decide (most ≤ v) = true := decide_eq_true (by omega)
              clear HSL HBAD hvm
              go_wp2_with fail
              first | exact HF.out | exact ⟨rfl, HF.out⟩
      · have HF := Lib.hid (show Q (faultE p) w1 by
          rw [EQ.out]
          refine ⟨HO.out.then ho1, ?_⟩
          have h9 := HX.out
          rw [show cnt - k = (cnt - (k + 1)) + 1 by omega, slotsF, hv] at h9
          rw [h9])
        clear HG HX HOWN ho1 hv
        unfold faultE at HF ⊢
        go_wp2_with fail
        first | exact HF.out | exact ⟨rfl, HF.out⟩
    · obtain rfl : k = cnt := by omega
      have HF := Lib.hid (show Q (.returned u7) wr by
        rw [EQ.out]
        refine ⟨HO.out, ?_⟩
        have h9 := HX.out
        rw [Nat.sub_self, slotsF] at h9
        rw [h9]
        simp only [List.append_nil]
        exact ⟨u7, rfl, by rw [HVL.out]; exact HOWN.out, i, hi1, hr, rfl⟩)
      clear HG HX HOWN hr
      go_wp2_with fail
      first | exact HF.out | (go_ret; exact HF.out)
end Go.Proofs.YtbfebfeliddpnaaDoor
