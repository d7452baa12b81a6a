/- Seal, the program's and the document's: the law's walk. -/
import Derived.Test.YtjcinelcocmpnaaDoorGroW
import Derived.Test.YtjcinelcocmpnaaDoorLawA
import Derived.Test.YtjcinelcocmpnaaDoorSameB
namespace Go.Proofs.YtjcinelcocmpnaaDoor
open Go.RowKit
set_option linter.unusedVariables false
set_option linter.unusedSimpArgs false
open Classical in
/-- The number and the bytes that Seal answers. -/
noncomputable def sealE (s : Sup) : Int := if Fits s then 0 else 53
open Classical in
noncomputable def sealX (K : Nat → Int) (S : St) (s : Sup) : List Int := if Fits s then sealL K S s else []
/-- A list that lies in a block of its own, from lo on. -/
def AnsP (lo : Nat) (w : World) (v : Value) (xs : List Int) : Prop :=
  (v = .slice none 0 0 ∧ xs = []) ∨ ∃ B, v = .slice (some ⟨B, 0, none⟩) xs.length xs.length ∧ 0 < xs.length ∧ lo ≤ B ∧ RowA .u8 5 w B xs.length (fun i => xs.getD i 0)
theorem sealX_le (K : Nat → Int) (S : St) (s : Sup) : (sealX K S s).length ≤ 1024 := by
  unfold sealX
  split
  · rename_i h; rw [sealL_length K S s h.2.2.2.2.1]; have := h.2.2.2.2.1; unfold okSize at this; omega
  · simp
theorem SlQ.ans {K : Nat → Int} {S : St} {s : Sup} {w : World} {e : Ending} {w' : World} (h : SlQ K S s w e w') : Below w.heap.size w w' ∧ ∃ v, e = .returned (.tuple #[v, .int .i64 (sealE s)]) ∧ AnsP w.heap.size w' v (sealX K S s) := by
  obtain ⟨hb, ⟨hf, B, hB, he, hr⟩ | ⟨hf, he⟩⟩ := h
  · have hl := sealL_length K S s hf.2.2.2.2.1
    have := hf.2.2.2.2.1
    unfold okSize at this
    refine ⟨hb, _, by unfold sealE; rw [if_pos hf]; exact he, .inr ⟨B, ?_, ?_, hB, ?_⟩⟩
    · unfold sealX; rw [if_pos hf, hl]
    · unfold sealX; rw [if_pos hf, hl]; omega
    · unfold sealX; rw [if_pos hf, hl]; exact hr
  · exact ⟨hb, _, by unfold sealE; rw [if_neg hf]; exact he, .inl ⟨rfl, by unfold sealX; rw [if_neg hf]⟩⟩
theorem RsQ.ans {ks : List Int} {S : St} {s : Sup} {w : World} {e : Ending} {w' : World} (h : RsQ ks S s w e w') : ∃ v, e = .returned (.tuple #[v, .int .i64 (sealE s)]) ∧ PdA (sealX (fun i => ks.getD i 0) S s).length (sealX (fun i => ks.getD i 0) S s) v w w' := by
  rcases h with ⟨hf, u, he, hp⟩ | ⟨hf, he, hb⟩
  · refine ⟨u, by unfold sealE; rw [if_pos hf]; exact he, ?_⟩
    unfold sealX; rw [if_pos hf, sealL_length _ S s hf.2.2.2.2.1]; exact hp
  · refine ⟨_, by unfold sealE; rw [if_neg hf]; exact he, ?_⟩
    unfold sealX; rw [if_neg hf]
    exact ⟨rfl, hb, rfl, .inl ⟨rfl, rfl⟩⟩
theorem AnsP.below {lo : Nat} {w w1 : World} {v : Value} {xs : List Int} (h : AnsP lo w v xs) (hb : Below w.heap.size w w1) : AnsP lo w1 v xs := by
  rcases h with h | ⟨B, e, h0, hB, hr⟩
  · exact .inl h
  · exact .inr ⟨B, e, h0, hB, hr.below hb hr.lt⟩
/-- It reads as xs, in a block from lo on. -/
def RdO (lo : Nat) (w : World) (v : Value) (xs : List Int) : Prop := Rd .u8 w v xs ∧ ∀ b off n c, v = .slice (some ⟨b, off, none⟩) n c → lo ≤ b
theorem AnsP.rdo {lo : Nat} {w : World} {v : Value} {xs : List Int} (h : AnsP lo w v xs) : RdO lo w v xs := by
  rcases h with ⟨rfl, rfl⟩ | ⟨B, rfl, h0, hB, hr⟩
  · exact ⟨.inl ⟨rfl, _, _, rfl⟩, fun b off n c h => by simp at h⟩
  · exact ⟨hr.rd xs xs.length (Nat.le_refl _) (Nat.le_refl _) (fun _ _ => rfl), fun b off n c h => by simp at h; omega⟩
theorem PdA.rdo {N : Nat} {l : List Int} {u : Value} {w wr : World} (h : PdA N l u w wr) : RdO w.heap.size wr u l := by
  obtain ⟨hl, hb, ho⟩ := h
  by_cases h0 : 0 < N
  · obtain ⟨g, cap, e, hg, hlt, hc, ⟨cur, hcur⟩, hx⟩ := own_cells ho h0
    subst e
    refine ⟨.inr ⟨g, 0, cap, by rw [hl], by omega, by omega, hlt, fun i hi => ?_⟩, fun b off n c h => by simp at h; omega⟩
    rw [Nat.zero_add, hx i (by omega), List.getElem?_map, List.getElem?_eq_getElem hi, List.getD_eq_getElem?_getD, List.getElem?_eq_getElem hi]; rfl
  · have : N = 0 := by omega
    subst this
    have hl0 : l = [] := List.eq_nil_of_length_eq_zero hl
    subst hl0
    rcases ho.2 with ⟨rfl, _⟩ | ⟨g, cap, cur, rfl, hg, _⟩
    · exact ⟨.inl ⟨rfl, _, _, rfl⟩, fun b off n c h => by simp at h⟩
    · exact ⟨.inl ⟨rfl, _, _, rfl⟩, fun b off n c h => by simp at h; omega⟩
theorem RdO.below {lo : Nat} {w w1 : World} {v : Value} {xs : List Int} (h : RdO lo w v xs) (hb : Below w.heap.size w w1) : RdO lo w1 v xs := ⟨h.1.below hb, h.2⟩
theorem RdO.only {lo : Nat} {w w1 : World} {v : Value} {xs : List Int} {bs : List Nat} (h : RdO lo w v xs) (ho : Only bs w w1) (hn : ∀ x ∈ bs, x < lo) : RdO lo w1 v xs := by
  refine ⟨?_, h.2⟩
  rcases h.1 with h1 | ⟨b, off, c, rfl, h1, h2, h3, h4⟩
  · exact .inl h1
  · refine .inr ⟨b, off, c, rfl, h1, h2, Nat.lt_of_lt_of_le h3 ho.size, fun i hi => ?_⟩
    have hb : b ∉ bs := fun hm => by have := hn b hm; have := h.2 b off _ c rfl; omega
    rw [cell_of_heap (ho.block b h3 hb)]
    exact h4 i hi
end Go.Proofs.YtjcinelcocmpnaaDoor
