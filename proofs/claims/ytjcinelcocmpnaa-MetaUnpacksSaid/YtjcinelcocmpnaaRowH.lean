/- Reading the arguments of a row: a slice of numbers, a slice of slices of bytes. -/
import Derived.Test.YtjcinelcocmpnaaHandsW
import Derived.ProofKit
import Derived.OpenShut
import Derived.SizedLaws
import Derived.Deep.Matrix
namespace Go.Proofs.Ytjcinelcocmpnaa
open Go.ChangeShapes Go.WideShapes Go.ChangeAt Go.RowKit Go.Deep
set_option linter.unusedVariables false
set_option linter.unusedSimpArgs false
theorem rd_of_cells {k : IntKind} {w : World} {x : Addr} {len cap : Nat} {zs : List Int} (hl : len ≤ cap) (hz : zs.length = cap) (hc : ∀ i, i < zs.length → w.cell? (x.add i) = some (.int k (zs.getD i 0))) :
    Rd k w (.slice (some x) len cap) (zs.take len) := by
  by_cases h0 : len = 0
  · subst h0; exact .inl ⟨by simp, _, _, rfl⟩
  · obtain ⟨b, off, rfl, hh⟩ := ints_at hc (by omega)
    have e : (zs.take len).length = len := by rw [List.length_take]; omega
    refine .inr ⟨b, off, cap, by rw [e], by omega, by omega, World.block_lt_of_cell? w _ (hh 0 (by omega)), fun i hi => ?_⟩
    rw [hh i (by omega)]
    congr 2
    simp only [List.getD_eq_getElem?_getD]
    rw [List.getElem?_take, if_pos (by omega)]
theorem slice_bytes {H : Type} {enc : TypeId × Value → H} {P : Program} {W : World} {base : Nat} {spare : Nat → Bool} {held : Bool} {t e : TypeId} {k : IntKind} {a : Option Addr} {len cap : Nat} {d : DataW H} {ps : List MemPlace} {ts : List TypeId} {ds : List (DataW H)} {j : Nat}
    (hsz : (DataW.weightsEach P ts ds).all (· ≤ reachBytes) = true) (ht : ts[j]? = some t) (hd : ds[j]? = some d) (hu : P.underlying t = some (.slice e)) (he : P.underlying e = some (.int k)) (hc : P.cellsOf e = 1) {B : Nat} (hB : P.bytesOf e = B)
    (h : DataW.Trod enc P W base spare held t (.slice a len cap) d ps) : len * B ≤ 140737488351232 := by
  obtain ⟨fuel, hf⟩ := h
  rcases open_ints hu he hc hf with ⟨hcs, _⟩ | ⟨x, l, c, zs, hcs, _, hl, _, hz, hx, _, _⟩
  · simp [Value.cells] at hcs
    obtain ⟨rfl, rfl, rfl⟩ := hcs
    simp
  · simp [Value.cells] at hcs
    obtain ⟨rfl, rfl, rfl⟩ := hcs
    obtain ⟨hx, _⟩ := Prod.mk.inj hx
    subst hx
    have z := sized_slice hsz ht hd hu
    simp only [lits, List.length_map, List.length_take, List.length_drop, hB] at z
    have hzl : len ≤ zs.length := by rw [hz]; split <;> omega
    have : reachBytes = 140737488351232 := by decide
    rw [Nat.min_eq_left hzl] at z
    have h2 : len * B ≤ (len + (zs.length - len)) * B := Nat.mul_le_mul_right _ (by omega)
    omega
theorem rd_of_trod {H : Type} {enc : TypeId × Value → H} {P : Program} {W : World} {base : Nat} {held : Bool} {t e : TypeId} {k : IntKind} {a : Option Addr} {len cap : Nat} {d : DataW H} {ps : List MemPlace}
    (hu : P.underlying t = some (.slice e)) (he : P.underlying e = some (.int k)) (hc : P.cellsOf e = 1) (h : DataW.Trod enc P W base (fun _ => true) held t (.slice a len cap) d ps) :
    ∃ zs, Rd k W (.slice a len cap) zs ∧ (∀ x ∈ zs, (Lit.int k x).wf = true) ∧ zs.length = len := by
  obtain ⟨fuel, hf⟩ := h
  rcases open_ints hu he hc hf with ⟨hcs, _⟩ | ⟨x, l, c, zs, hcs, _, hl, _, hz, hx, hcell, hwz⟩
  · simp [Value.cells] at hcs
    obtain ⟨rfl, rfl, rfl⟩ := hcs
    exact ⟨[], .inl ⟨rfl, _, _, rfl⟩, by simp, rfl⟩
  · simp [Value.cells] at hcs
    obtain ⟨rfl, rfl, rfl⟩ := hcs
    simp only [if_true] at hz
    exact ⟨zs.take len, rd_of_cells hl hz hcell, fun x hx => hwz x (List.mem_of_mem_take hx), by rw [List.length_take]; omega⟩
theorem weights_mem_all {H : Type} {P : Program} {e : TypeId} {d : DataW H} {n : Nat} (hn : n ∈ d.weights P e) : ∀ l : List (DataW H), d ∈ l → n ∈ DataW.weightsAll P e l
  | [], h => by simp at h
  | x :: r, h => by
    simp only [DataW.weightsAll, List.mem_append]
    rcases List.mem_cons.1 h with rfl | h
    · exact .inl hn
    · exact .inr (weights_mem_all hn r h)
theorem addr_plain {w : World} {a : Addr} {v : Value} (h : w.cell? (a.add 0) = some v) : ∃ b off, a = ⟨b, off, none⟩ := by
  obtain ⟨b, off, spot⟩ := a
  have hspot : spot = none := by simpa [Addr.add] using World.cell?_spot h
  subst hspot
  exact ⟨b, off, rfl⟩
theorem rd_of_part {k : IntKind} {w : World} {A : Option Addr} {L C : Nat} {Z : List Int} (h1 : L ≤ C) (h2 : Z.length = C) (h3 : A = none → C = 0) (h4 : ∀ a', A = some a' → ∀ c, c < C → w.cell? (a'.add c) = some (.int k (Z.getD c 0))) :
    Rd k w (.slice A L C) (Z.take L) := by
  cases A with
  | none =>
    have := h3 rfl
    have hL : L = 0 := by omega
    subst hL
    exact .inl ⟨by simp, _, _, rfl⟩
  | some x => exact rd_of_cells h1 h2 (fun i hi => h4 x rfl i (by omega))
theorem rdl_of_trod {H : Type} {enc : TypeId × Value → H} {P : Program} {W : World} {base : Nat} {held : Bool} {t e q : TypeId} {a : Option Addr} {len cap : Nat} {d : DataW H} {ps : List MemPlace} {ts : List TypeId} {ds : List (DataW H)} {j : Nat}
    (hsz : (DataW.weightsEach P ts ds).all (· ≤ reachBytes) = true) (ht : ts[j]? = some t) (hd : ds[j]? = some d) (hu : P.underlying t = some (.slice e)) (he : P.underlying e = some (.slice q)) (hq : P.underlying q = some (.int .u8)) (ce : P.cellsOf e = 1) (cq : P.cellsOf q = 1)
    (hB : P.bytesOf e = 24) (hBq : P.bytesOf q = 1) (h : DataW.Trod enc P W base (fun _ => true) held t (.slice a len cap) d ps) :
    ∃ V zs, BkIn W (.slice a len cap) len V zs ∧ len * 24 ≤ 140737488351232 ∧ (∀ i, i < len → (zs i).length ≤ 140737488351232) ∧ ∀ i, i < len → ∀ x ∈ zs i, (Lit.int .u8 x).wf = true := by
  have hrb : reachBytes = 140737488351232 := by decide
  obtain ⟨fuel, hf⟩ := h
  rcases open_int_rows hu he hq ce cq hf with ⟨hcs, _⟩ | ⟨x, l, c, A, L, C, Z, hcs, _, hl, _, hx, hall⟩
  · simp [Value.cells] at hcs
    obtain ⟨rfl, rfl, rfl⟩ := hcs
    exact ⟨fun _ => .slice none 0 0, fun _ => [], .inl ⟨rfl, _, _, rfl⟩, by omega, fun i hi => by omega, fun i hi => by omega⟩
  · simp [Value.cells] at hcs
    obtain ⟨rfl, rfl, rfl⟩ := hcs
    obtain ⟨hx, _⟩ := Prod.mk.inj hx
    subst hx
    have z := sized_slice hsz ht hd hu
    simp only [List.length_map, List.length_range, hB] at z
    have hlen : len * 24 ≤ 140737488351232 := by
      have : len * 24 ≤ (len + (cap - len)) * 24 := Nat.mul_le_mul_right _ (by omega)
      omega
    have hz : ∀ i, i < len → ((Z i).take (L i)).length ≤ 140737488351232 := by
      intro i hi
      obtain ⟨_, h1, _, h2, _, h3, _⟩ := hall i (by omega)
      cases hA : A i with
      | none => have := h3 hA; rw [List.length_take]; omega
      | some a' =>
        have hmem : intRow .u8 (A i) (L i) (Z i) ∈ (List.range len).map fun r => intRow (H := H) .u8 (A r) (L r) (Z r) := List.mem_map.2 ⟨i, by simpa using hi, rfl⟩
        have hw : (((Z i).take (L i)).length + ((Z i).drop (L i)).length) * 1 ∈ (intRow (H := H) .u8 (A i) (L i) (Z i)).weights P e := by
          rw [hA]
          simp only [intRow, DataW.weights, he, hBq]
          simp [lits]
        have h5 := DataW.weights_mem_each (P := P) ht hd ((((Z i).take (L i)).length + ((Z i).drop (L i)).length) * 1) (by
          simp only [DataW.weights, hu]
          exact List.mem_cons_of_mem _ (List.mem_append.2 (.inl (weights_mem_all hw _ hmem))))
        have h6 := List.all_eq_true.1 hsz _ h5
        have h7 := of_decide_eq_true h6
        omega
    refine ⟨fun i => .slice (A i) (L i) (C i), fun i => (Z i).take (L i), ?_, hlen, hz, fun i hi y hy => (hall i (by omega)).2.2.2.2.1 y (List.mem_of_mem_take hy)⟩
    by_cases h0 : len = 0
    · subst h0; exact .inl ⟨rfl, _, _, rfl⟩
    · obtain ⟨b, off, rfl⟩ := addr_plain (hall 0 (by omega)).1
      refine .inr ⟨b, off, cap, rfl, by omega, hl, ?_, fun i hi => ?_⟩
      · have := (hall 0 (by omega)).1
        rw [Go.WideShapes.add_plain] at this
        exact World.block_lt_of_cell? W _ this
      · obtain ⟨g1, g2, g3, g4, g5, g6, g7⟩ := hall i (by omega)
        rw [Go.WideShapes.add_plain] at g1
        exact ⟨g1, rd_of_part g2 g4 g6 (fun a' ha' c hc => (g7 a' ha').2 c hc)⟩
end Go.Proofs.Ytjcinelcocmpnaa
