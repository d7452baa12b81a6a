/- Reading the arguments of a row: slices of structs that hold a slice of bytes. -/
import Derived.Test.YtigfcoibbmndpaaLwF
import Derived.ProofKit
import Derived.OpenShut
import Derived.SizedLaws
import Derived.Deep.Matrix
import Derived.Deep.SlicePairs
namespace Go.Proofs.Ytigfcoibbmndpaa
open Go.ChangeShapes Go.WideShapes Go.ChangeAt Go.RowKit Go.Deep
set_option linter.unusedVariables false
set_option linter.unusedSimpArgs false
theorem rd_of_cells {k : IntKind} {w : World} {x : Addr} {len cap : Nat} {zs : List Int} (hl : len ≤ cap) (hz : zs.length = cap) (hc : ∀ i, i < zs.length → w.cell? (x.add i) = some (.int k (zs.getD i 0))) :
    Rd k w (.slice (some x) len cap) (zs.take len) := by
  by_cases h0 : len = 0
  · subst h0; exact .inl ⟨by simp, _, _, rfl⟩
  · obtain ⟨b, off, rfl, hh⟩ := ints_at hc (by omega)
    have e : (zs.take len).length = len := by rw [List.length_take]; omega
    refine .inr ⟨b, off, cap, by rw [e], by omega, by omega, World.block_lt_of_cell? w _ (hh 0 (by omega)), fun i hi => ?_⟩
    rw [hh i (by omega)]
    congr 2
    simp only [List.getD_eq_getElem?_getD]
    rw [List.getElem?_take, if_pos (by omega)]
theorem addr_plain {w : World} {a : Addr} {v : Value} (h : w.cell? (a.add 0) = some v) : ∃ b off, a = ⟨b, off, none⟩ := by
  obtain ⟨b, off, spot⟩ := a
  have hspot : spot = none := by simpa [Addr.add] using World.cell?_spot h
  subst hspot
  exact ⟨b, off, rfl⟩
theorem wf_u8 {x : Int} (h : (Lit.int .u8 x).wf = true) : 0 ≤ x ∧ x < 256 := by
  simp [Lit.wf, IntKind.min, IntKind.max, IntKind.bits, IntKind.signed] at h
  omega
/-- A Put's cells, from an address on. -/
def w_put (W : World) (x : Addr) (i : Nat) (p : PutV) : Prop := W.cell? (x.add (i * 3)) = some (.int .i64 p.blk) ∧ W.cell? (x.add (i * 3 + 1)) = some p.tv ∧ W.cell? (x.add (i * 3 + 2)) = some (.bool p.past) ∧ Rd .u8 W p.tv p.txt ∧ BytesL p.txt ∧ p.txt.length ≤ 9223372036854775807
/-- A call's cells, from an address on. -/
def w_op (W : World) (x : Addr) (i : Nat) (o : OpV) : Prop := W.cell? (x.add (i * 4)) = some (.int .i64 o.kind) ∧ W.cell? (x.add (i * 4 + 1)) = some (.int .i64 o.blk) ∧ W.cell? (x.add (i * 4 + 2)) = some (.int .i64 o.cnt) ∧ W.cell? (x.add (i * 4 + 3)) = some o.dv ∧ Rd .u8 W o.dv o.data ∧ I64 o.blk ∧ I64 o.cnt ∧ BytesL o.data ∧ o.data.length ≤ 9223372036854775807
section
variable {H : Type} {enc : TypeId × Value → H} {P : Program} {W : World} {base : Nat} {held : Bool}
theorem bytes_of_trod {t e : TypeId} {fuel : Nat} {v : Value} {y : DataW H × List MemPlace} (hu : P.underlying t = some (.slice e)) (he : P.underlying e = some (.int .u8)) (hc : P.cellsOf e = 1)
    (h : DataW.trod enc P W base (fun _ => true) held fuel t [v] = some y) : ∃ zs, Rd .u8 W v zs ∧ BytesL zs ∧ zs.length ≤ 9223372036854775807 := by
  rcases open_ints hu he hc h with ⟨hcs, _⟩ | ⟨x, l, c, zs, hcs, _, hl, hm, hz, hx, hcell, hwz⟩
  · simp at hcs
    subst hcs
    exact ⟨[], .inl ⟨rfl, _, _, rfl⟩, ⟨fun x hx => (List.not_mem_nil hx).elim, Nat.zero_le _⟩⟩
  · simp at hcs
    subst hcs
    simp only [if_true] at hz
    refine ⟨zs.take l, rd_of_cells hl hz hcell, fun x hx => wf_u8 (hwz x (List.mem_of_mem_take hx)), ?_⟩
    rw [List.length_take]
    unfold maxLen at hm
    omega
theorem int_of_trod {t : TypeId} {k : IntKind} {fuel : Nat} {v : Value} {y : DataW H × List MemPlace} (hu : P.underlying t = some (.int k)) (h : DataW.trod enc P W base (fun _ => true) held fuel t [v] = some y) : ∃ n, v = .int k n ∧ (Lit.int k n).wf = true := by
  cases fuel with
  | zero => simp [DataW.trod] at h
  | succ f =>
    unfold DataW.trod at h
    rw [hu] at h
    cases v <;> simp at h
    rename_i k' n
    exact ⟨n, by rw [h.1.1], h.1.2⟩
theorem bool_of_trod {t : TypeId} {fuel : Nat} {v : Value} {y : DataW H × List MemPlace} (hu : P.underlying t = some .bool) (h : DataW.trod enc P W base (fun _ => true) held fuel t [v] = some y) : ∃ b, v = .bool b := by
  cases fuel with
  | zero => simp [DataW.trod] at h
  | succ f =>
    unfold DataW.trod at h
    rw [hu] at h
    cases v <;> simp at h
    exact ⟨_, rfl⟩
/-- A slice of Puts. -/
theorem puts_of_trod {t e : TypeId} {f0 f1 f2 : Field} {q : TypeId} {a : Option Addr} {len cap : Nat} {d : DataW H} {ps : List MemPlace} {ts : List TypeId} {ds : List (DataW H)} {j : Nat}
    (hsz : (DataW.weightsEach P ts ds).all (· ≤ reachBytes) = true) (ht : ts[j]? = some t) (hd : ds[j]? = some d) (hu : P.underlying t = some (.slice e)) (he : P.underlying e = some (.struct #[f0, f1, f2])) (ce : P.cellsOf e = 3) (hB : P.bytesOf e = 40)
    (o0 : f0.offset = 0) (o1 : f1.offset = 1) (o2 : f2.offset = 2) (c0 : P.cellsOf f0.type = 1) (c1 : P.cellsOf f1.type = 1) (c2 : P.cellsOf f2.type = 1)
    (u0 : P.underlying f0.type = some (.int .i64)) (u1 : P.underlying f1.type = some (.slice q)) (uq : P.underlying q = some (.int .u8)) (cq : P.cellsOf q = 1) (u2 : P.underlying f2.type = some .bool)
    (h : DataW.Trod enc P W base (fun _ => true) held t (.slice a len cap) d ps) : ∃ xs, PutsR W (.slice a len cap) xs := by
  have hrb : reachBytes = 140737488351232 := by decide
  obtain ⟨fuel, hf⟩ := h
  rcases open_slice hu hf with ⟨hcs, _⟩ | ⟨x, l, c, m, n, D, Pl, hcs, _, hl, _, hm, hx, hall⟩
  · simp [Value.cells] at hcs
    obtain ⟨rfl, rfl, rfl⟩ := hcs
    exact ⟨[], by simp, .inl ⟨rfl, _, _, rfl⟩⟩
  · simp [Value.cells] at hcs
    obtain ⟨rfl, rfl, rfl⟩ := hcs
    obtain ⟨hx, _⟩ := Prod.mk.inj hx
    subst hx
    simp only [if_true] at hm
    subst hm
    have z := sized_slice hsz ht hd hu
    simp only [List.length_map, List.length_range, hB] at z
    have hlen : len * 40 ≤ 140737488351232 := by
      have : len * 40 ≤ (len + (m - len)) * 40 := Nat.mul_le_mul_right _ (by omega)
      omega
    rw [ce] at hall
    have each : ∀ i, i < len → ∃ p : PutV, w_put W x i p := by
      intro i hi
      obtain ⟨cs', h1, h2⟩ := hall i (by omega)
      obtain ⟨_, hlen3, hcell⟩ := World.cells?_some h1
      obtain ⟨xs, k, _, _, _, hxl, hfl⟩ := DataW.trod_struct he h2
      match xs, hxl, cs', hlen3 with
      | [y0, y1, y2], _, [v0, v1, v2], _ =>
        have g0 := hfl 0 f0 rfl
        have g1 := hfl 1 f1 rfl
        have g2 := hfl 2 f2 rfl
        simp [o0, o1, o2, c0, c1, c2] at g0 g1 g2
        have e0 := hcell 0 (by omega)
        have e1 := hcell 1 (by omega)
        have e2 := hcell 2 (by omega)
        rw [add_add] at e0 e1 e2
        obtain ⟨nb, rfl, _⟩ := int_of_trod u0 g0
        obtain ⟨zs, hr, hb, hz⟩ := bytes_of_trod u1 uq cq g1
        obtain ⟨bo, rfl⟩ := bool_of_trod u2 g2
        exact ⟨⟨nb, v1, zs, bo⟩, by simpa using e0, by simpa using e1, by simpa using e2, hr, hb, hz⟩
    have each' : ∀ i, ∃ p : PutV, i < len → w_put W x i p := fun i => by
      by_cases hi : i < len
      · obtain ⟨p, hp⟩ := each i hi; exact ⟨p, fun _ => hp⟩
      · exact ⟨p0, fun h => absurd h hi⟩
    let q : Nat → PutV := fun i => (each' i).choose
    have hq : ∀ i, i < len → w_put W x i (q i) := fun i => (each' i).choose_spec
    refine ⟨(List.range len).map q, by simp; exact hlen, ?_⟩
    by_cases h0 : len = 0
    · exact .inl ⟨by rw [h0]; rfl, _, _, by rw [h0]⟩
    · obtain ⟨b, off, rfl⟩ := addr_plain (by have := (hq 0 (by omega)).1; rwa [Nat.zero_mul] at this)
      have hb0 := (hq 0 (by omega)).1
      rw [Go.WideShapes.add_plain] at hb0
      refine .inr ⟨b, off, m, by simp, by simp; omega, by simp; exact hl, World.block_lt_of_cell? W _ hb0, fun i hi => ?_⟩
      have hi' : i < len := by simpa using hi
      have hg : ((List.range len).map q).getD i p0 = q i := by
        rw [List.getD_eq_getElem?_getD, List.getElem?_map, List.getElem?_range hi']
        rfl
      rw [hg]
      obtain ⟨k0, k1, k2, k3, k4, k5⟩ := hq i hi'
      rw [Go.WideShapes.add_plain] at k0 k1 k2
      exact ⟨k0, by rw [Nat.add_assoc]; exact k1, by rw [Nat.add_assoc]; exact k2, k3, k4, k5⟩
/-- A slice of Ops. -/
theorem ops_of_trod {t e : TypeId} {f0 f1 f2 f3 : Field} {q : TypeId} {a : Option Addr} {len cap : Nat} {d : DataW H} {ps : List MemPlace} {ts : List TypeId} {ds : List (DataW H)} {j : Nat}
    (hsz : (DataW.weightsEach P ts ds).all (· ≤ reachBytes) = true) (ht : ts[j]? = some t) (hd : ds[j]? = some d) (hu : P.underlying t = some (.slice e)) (he : P.underlying e = some (.struct #[f0, f1, f2, f3])) (ce : P.cellsOf e = 4) (hB : P.bytesOf e = 48)
    (o0 : f0.offset = 0) (o1 : f1.offset = 1) (o2 : f2.offset = 2) (o3 : f3.offset = 3) (c0 : P.cellsOf f0.type = 1) (c1 : P.cellsOf f1.type = 1) (c2 : P.cellsOf f2.type = 1) (c3 : P.cellsOf f3.type = 1)
    (u0 : P.underlying f0.type = some (.int .i64)) (u1 : P.underlying f1.type = some (.int .i64)) (u2 : P.underlying f2.type = some (.int .i64)) (u3 : P.underlying f3.type = some (.slice q)) (uq : P.underlying q = some (.int .u8)) (cq : P.cellsOf q = 1)
    (h : DataW.Trod enc P W base (fun _ => true) held t (.slice a len cap) d ps) : ∃ xs, OpsR W (.slice a len cap) xs := by
  have hrb : reachBytes = 140737488351232 := by decide
  obtain ⟨fuel, hf⟩ := h
  rcases open_slice hu hf with ⟨hcs, _⟩ | ⟨x, l, c, m, n, D, Pl, hcs, _, hl, _, hm, hx, hall⟩
  · simp [Value.cells] at hcs
    obtain ⟨rfl, rfl, rfl⟩ := hcs
    exact ⟨[], by simp, .inl ⟨rfl, _, _, rfl⟩⟩
  · simp [Value.cells] at hcs
    obtain ⟨rfl, rfl, rfl⟩ := hcs
    obtain ⟨hx, _⟩ := Prod.mk.inj hx
    subst hx
    simp only [if_true] at hm
    subst hm
    have z := sized_slice hsz ht hd hu
    simp only [List.length_map, List.length_range, hB] at z
    have hlen : len * 48 ≤ 140737488351232 := by
      have : len * 48 ≤ (len + (m - len)) * 48 := Nat.mul_le_mul_right _ (by omega)
      omega
    rw [ce] at hall
    have each : ∀ i, i < len → ∃ p : OpV, w_op W x i p := by
      intro i hi
      obtain ⟨cs', h1, h2⟩ := hall i (by omega)
      obtain ⟨_, hlen3, hcell⟩ := World.cells?_some h1
      obtain ⟨xs, k, _, _, _, hxl, hfl⟩ := DataW.trod_struct he h2
      match xs, hxl, cs', hlen3 with
      | [y0, y1, y2, y3], _, [v0, v1, v2, v3], _ =>
        have g0 := hfl 0 f0 rfl
        have g1 := hfl 1 f1 rfl
        have g2 := hfl 2 f2 rfl
        have g3 := hfl 3 f3 rfl
        simp [o0, o1, o2, o3, c0, c1, c2, c3] at g0 g1 g2 g3
        have e0 := hcell 0 (by omega)
        have e1 := hcell 1 (by omega)
        have e2 := hcell 2 (by omega)
        have e3 := hcell 3 (by omega)
        rw [add_add] at e0 e1 e2 e3
        obtain ⟨nk, rfl, _⟩ := int_of_trod u0 g0
        obtain ⟨nb, rfl, wb⟩ := int_of_trod u1 g1
        obtain ⟨nc, rfl, wc⟩ := int_of_trod u2 g2
        obtain ⟨zs, hr, hb, hz⟩ := bytes_of_trod u3 uq cq g3
        exact ⟨⟨nk, nb, nc, v3, zs⟩, by simpa using e0, by simpa using e1, by simpa using e2, by simpa using e3, hr, wb, wc, hb, hz⟩
    have each' : ∀ i, ∃ p : OpV, i < len → w_op W x i p := fun i => by
      by_cases hi : i < len
      · obtain ⟨p, hp⟩ := each i hi; exact ⟨p, fun _ => hp⟩
      · exact ⟨d0, fun h => absurd h hi⟩
    let q : Nat → OpV := fun i => (each' i).choose
    have hq : ∀ i, i < len → w_op W x i (q i) := fun i => (each' i).choose_spec
    refine ⟨(List.range len).map q, by simp; exact hlen, ?_⟩
    by_cases h0 : len = 0
    · exact .inl ⟨by rw [h0]; rfl, _, _, by rw [h0]⟩
    · obtain ⟨b, off, rfl⟩ := addr_plain (by have := (hq 0 (by omega)).1; rwa [Nat.zero_mul] at this)
      have hb0 := (hq 0 (by omega)).1
      rw [Go.WideShapes.add_plain] at hb0
      refine .inr ⟨b, off, m, by simp, by simp; omega, by simp; exact hl, World.block_lt_of_cell? W _ hb0, fun i hi => ?_⟩
      have hi' : i < len := by simpa using hi
      have hg : ((List.range len).map q).getD i d0 = q i := by
        rw [List.getD_eq_getElem?_getD, List.getElem?_map, List.getElem?_range hi']
        rfl
      rw [hg]
      obtain ⟨k0, k1, k2, k3, k4, k5, k6, k7, k8⟩ := hq i hi'
      rw [Go.WideShapes.add_plain] at k0 k1 k2 k3
      exact ⟨k0, by rw [Nat.add_assoc]; exact k1, by rw [Nat.add_assoc]; exact k2, by rw [Nat.add_assoc]; exact k3, k4, k5, k6, k7, k8⟩
end
end Go.Proofs.Ytigfcoibbmndpaa
