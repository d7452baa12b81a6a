/- Lists of blocks handed in with room behind each: handBlocks. -/
import Derived.Test.YtjcinelcocmpnaaHandW
namespace Go.Proofs.Ytjcinelcocmpnaa
open Go.RowKit
set_option linter.unusedVariables false
set_option linter.unusedSimpArgs false
theorem hd_info49 : (Try.prog.info? 49).map (fun i => (i.zero, i.size, i.bytes)) = some (some (.slice none 0 0), 1, 24) := by kernel_rfl
/-- v reads as n slices, the i-th is V i and reads as the bytes zs i. -/
def BkIn (w : World) (v : Value) (n : Nat) (V : Nat → Value) (zs : Nat → List Int) : Prop :=
  (n = 0 ∧ ∃ a c, v = .slice a 0 c) ∨ ∃ g off c, v = .slice (some ⟨g, off, none⟩) n c ∧ 0 < n ∧ n ≤ c ∧ g < w.heap.size ∧ ∀ i, i < n → w.cell? ⟨g, off + i, none⟩ = some (V i) ∧ Rd .u8 w (V i) (zs i)
theorem BkIn.slice {w : World} {v : Value} {n : Nat} {V : Nat → Value} {zs : Nat → List Int} (h : BkIn w v n V zs) : ∃ a c, v = .slice a n c := by
  rcases h with ⟨rfl, a, c, rfl⟩ | ⟨g, off, c, rfl, _⟩
  · exact ⟨a, c, rfl⟩
  · exact ⟨_, c, rfl⟩
theorem BkIn.below {w w1 : World} {v : Value} {n : Nat} {V : Nat → Value} {zs : Nat → List Int} (h : BkIn w v n V zs) (hb : Below w.heap.size w w1) : BkIn w1 v n V zs := by
  rcases h with h | ⟨g, off, c, rfl, h1, h2, h3, h4⟩
  · exact .inl h
  · refine .inr ⟨g, off, c, rfl, h1, h2, Nat.lt_of_lt_of_le h3 hb.size, fun i hi => ?_⟩
    obtain ⟨hx, hr⟩ := h4 i hi
    exact ⟨(hb.cell h3).trans hx, hr.below hb⟩
theorem BkIn.at {w : World} {a : Option Addr} {n c : Nat} {V : Nat → Value} {zs : Nat → List Int} (h : BkIn w (.slice a n c) n V zs) (i : Nat) (hi : i < n) :
    ∃ g off, a = some ⟨g, off, none⟩ ∧ g < w.heap.size ∧ w.cell? ⟨g, off + i, none⟩ = some (V i) ∧ Rd .u8 w (V i) (zs i) := by
  rcases h with ⟨h0, _⟩ | ⟨g, off, c, e, h1, h2, h3, h4⟩
  · omega
  · simp only [Value.slice.injEq] at e
    exact ⟨g, off, e.1, h3, (h4 i hi).1, (h4 i hi).2⟩
def extG {α : Type} (G : Nat → α) (k : Nat) (b : α) (i : Nat) : α := if i < k then G i else b
theorem extG_lt {α : Type} {G : Nat → α} {k i : Nat} {b : α} (h : i < k) : extG G k b i = G i := by unfold extG; rw [if_pos h]
theorem extG_eq {α : Type} (G : Nat → α) (k : Nat) (b : α) : extG G k b k = b := by unfold extG; rw [if_neg (by omega)]
/-- The hands of the first k blocks. -/
def handV (G : Nat → Nat) (zs : Nat → List Int) (i : Nat) : Value := .slice (some ⟨G i, 0, none⟩) ((zs i).length + 6) ((zs i).length + 6)
def HandsA (B : Nat) (w wr : World) (v : Value) (k : Nat) (zs : Nat → List Int) (G : Nat → Nat) : Prop :=
  Below B w wr ∧ wr.ownsRow B 49 1 v k ((List.range k).map (handV G zs)) ∧ ∀ i, i < k → B ≤ G i ∧ RowA .u8 5 wr (G i) ((zs i).length + 6) (handF (zs i) 6)
/-- What handBlocks has made. -/
def HandsQ (w : World) (n : Nat) (zs : Nat → List Int) (e : Ending) (w' : World) : Prop := ∃ v G, e = .returned v ∧ HandsA w.heap.size w w' v n zs G
theorem hands_step {B : Nat} {w wr w1 w2 : World} {v v' : Value} {k : Nat} {zs : Nat → List Int} {G : Nat → Nat} (h : HandsA B w wr v k zs G) (hB : B ≤ wr.heap.size) (h1 : Below wr.heap.size wr w1) (h2 : RowA .u8 5 w1 wr.heap.size ((zs k).length + 6) (handF (zs k) 6))
    (h3 : w2.ownsRow B 49 1 v' (k + 1) ((List.range k).map (handV G zs) ++ [.slice (some ⟨wr.heap.size, 0, none⟩) ((zs k).length + 6) ((zs k).length + 6)])) (h4 : w1.grownBy w2 v.ownBlock) :
    HandsA B w w2 v' (k + 1) zs (extG G k wr.heap.size) := by
  obtain ⟨g1, g2, g3⟩ := h
  have ho : w1.ownsRow B 49 1 v k ((List.range k).map (handV G zs)) := by
    refine g2.kept (row := none) ⟨h1.os, h1.tape, h1.output, h1.size, fun i hi _ => h1.block i hi⟩ ?_
    by_cases e : v.ownBlock = none
    · exact .inl e
    · exact .inr e
  refine ⟨(g1.trans (h1.mono hB)).grown h4 (by have := h1.size; omega) (fun i hi => (g2.lt i hi).1), ?_, fun i hi => ?_⟩
  · have e : (List.range (k + 1)).map (handV (extG G k wr.heap.size) zs) = (List.range k).map (handV G zs) ++ [.slice (some ⟨wr.heap.size, 0, none⟩) ((zs k).length + 6) ((zs k).length + 6)] := by
      rw [List.range_succ, List.map_append]
      congr 1
      · apply List.map_congr_left
        intro i hi
        have : i < k := by simpa using hi
        unfold handV; rw [extG_lt this]
      · simp [handV, extG]
    rw [e]; exact h3
  · by_cases e : i < k
    · rw [extG_lt e]
      exact ⟨(g3 i e).1, (((g3 i e).2.below h1 (g3 i e).2.lt)).grown ho h4 (by decide)⟩
    · have : i = k := by omega
      subst this
      rw [extG_eq]
      exact ⟨hB, h2.grown ho h4 (by decide)⟩
set_option maxHeartbeats 1000000 in
set_option maxRecDepth 100000 in
theorem handBlocks_ok (v : Value) (n : Nat) (V : Nat → Value) (zs : Nat → List Int) (w : World) (hr : BkIn w v n V zs) (hn : n * 24 ≤ 140737488351232) (hm : ∀ i, i < n → (zs i).length ≤ 140737488351232) :
    Calls Try.prog 12 #[v] w (HandsQ w n zs) := by
  obtain ⟨a, c, rfl⟩ := hr.slice
  have HR := Lib.hid hr
  have HM := Lib.hid hm
  clear hr hm
  go_enter Try.func12, Try.ntmps12
  go_wp2_with fail
  go_loopw [3, 4] (fun u i wr => ∃ k : Nat, k ≤ n ∧ i = .int .i64 k ∧ ∃ G, HandsA w.heap.size w wr u k zs G) (fun _ i _ => n - (intOf i).toNat)
  case atStart => exact ⟨0, Nat.zero_le _, rfl, fun _ => 0, Below.refl _ _, World.ownsRow_nil _ _ _ _, fun i hi => by omega⟩
  case round =>
    obtain ⟨k, hk, rfl, G, hP⟩ := hrel
    have HP := Lib.hid hP
    have hsz := hP.1.size
    have hown := hP.2.1
    clear hP
    by_cases hlt : k < n
    · obtain ⟨g, off, rfl, hg, hc, hrd⟩ := HR.out.at k hlt
      have hc' := (HP.out.1.cell hg).trans hc
      have hrd' : Rd .u8 wr (V k) (zs k) := hrd.below HP.out.1
      have HRD := Lib.hid hrd'
      clear hc hrd hrd' hown
      go_wp2_with fail
      refine (hand_ok _ (zs k) _ HRD.out (HM.out k hlt)).mono ?_
      rintro e w1 ⟨rfl, hb1, hr1⟩
      have HB1 := Lib.hid hb1
      have HR1 := Lib.hid hr1
      have hs1 := hb1.size
      have hown1 : w1.ownsRow w.heap.size 49 1 u3 k ((List.range k).map (handV G zs)) := by
        refine HP.out.2.1.kept (row := none) ⟨hb1.os, hb1.tape, hb1.output, hb1.size, fun i hi _ => hb1.block i hi⟩ ?_
        by_cases e : u3.ownBlock = none
        · exact .inl e
        · exact .inr e
      have HOWN1 := Lib.hid hown1
      clear hb1 hr1 hown1
      go_wp2_with (with_reducible refine app1 rfl (.tmp 11) (.tmp 17) 31 rfl w.heap.size 49 (.slice none 0 0) 24 Try.underlying31 hd_info49 rfl _ k _ rfl HOWN1.out (.slice (some ⟨wr.heap.size, 0, none⟩) ((zs k).length + 6) ((zs k).length + 6)) 1 rfl rfl ?c1 ?c2 ?c3 ?_)
      case c1 => unfold maxLen; omega
      case c2 => omega
      case c3 => omega
      intro v2 w2 ho2 hg2
      have hfin := hands_step HP.out hsz HB1.out HR1.out ho2 hg2
      have HF := Lib.hid hfin
      clear hfin ho2 hg2
      go_wp2
      go_roundw
      case rel => exact ⟨k + 1, by omega, by go_num, _, HF.out⟩
      case measure => simp [intOf] <;> omega
    · obtain rfl : k = n := by omega
      go_wp2
      go_ret
      exact ⟨_, G, rfl, HP.out⟩
end Go.Proofs.Ytjcinelcocmpnaa
