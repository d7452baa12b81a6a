/- Reading the arguments of a row: a Put, a slice of Runs. -/
import Derived.Test.YtigfcoibbmndpaaRowS
namespace Go.Proofs.Ytigfcoibbmndpaa
open Go.ChangeShapes Go.WideShapes Go.ChangeAt Go.RowKit Go.Deep
set_option linter.unusedVariables false
set_option linter.unusedSimpArgs false
structure RunV where
  kind : Int
  put : PutV
  len : Int
def r0 : RunV := ⟨0, p0, 0⟩
/-- A Run's words in the world. -/
structure RunR1 (w : World) (b off : Nat) (r : RunV) : Prop where
  c0 : w.cell? ⟨b, off, none⟩ = some (.int .i64 r.kind)
  p : PutR1 w b (off + 1) r.put
  c4 : w.cell? ⟨b, off + 4, none⟩ = some (.int .i64 r.len)
  i4 : I64 r.len
theorem RunR1.below {w w1 : World} {b off : Nat} {r : RunV} (h : RunR1 w b off r) (hb : b < w.heap.size) (hw : Below w.heap.size w w1) : RunR1 w1 b off r :=
  have hc : ∀ i, w1.cell? ⟨b, i, none⟩ = w.cell? ⟨b, i, none⟩ := fun i => cell_of_heap (hw.block b hb) i
  ⟨(hc _).trans h.c0, h.p.below hb hw, (hc _).trans h.c4, h.i4⟩
def RunsR (w : World) (v : Value) (rs : List RunV) : Prop :=
  rs.length * 56 ≤ 140737488351232 ∧ ((rs = [] ∧ ∃ A c, v = .slice A 0 c) ∨ ∃ b off c, v = .slice (some ⟨b, off, none⟩) rs.length c ∧ 0 < rs.length ∧ rs.length ≤ c ∧ b < w.heap.size ∧ ∀ i, i < rs.length → RunR1 w b (off + i * 5) (rs.getD i r0))
theorem RunsR.slice {w : World} {v : Value} {rs : List RunV} (h : RunsR w v rs) : ∃ A c, v = .slice A rs.length c := by
  rcases h.2 with ⟨rfl, A, c, rfl⟩ | ⟨b, off, c, rfl, _⟩
  · exact ⟨A, c, rfl⟩
  · exact ⟨_, c, rfl⟩
theorem RunsR.at {w w1 : World} {A : Option Addr} {n c : Nat} {rs : List RunV} (h : RunsR w (.slice A n c) rs) (hb : Below w.heap.size w w1) {i : Nat} (hi : i < rs.length) : ∃ b off, A = some ⟨b, off, none⟩ ∧ b < w.heap.size ∧ RunR1 w b (off + i * 5) (rs.getD i r0) ∧ RunR1 w1 b (off + i * 5) (rs.getD i r0) := by
  rcases h.2 with ⟨rfl, _⟩ | ⟨b, off, c, e, g1, g2, g3, g4⟩
  · simp at hi
  · simp only [Value.slice.injEq] at e
    exact ⟨b, off, e.1, g3, g4 i hi, (g4 i hi).below g3 hb⟩
def w_run (W : World) (x : Addr) (i : Nat) (r : RunV) : Prop :=
  W.cell? (x.add (i * 5)) = some (.int .i64 r.kind) ∧ W.cell? (x.add (i * 5 + 1)) = some (.int .i64 r.put.blk) ∧ W.cell? (x.add (i * 5 + 2)) = some r.put.tv ∧ W.cell? (x.add (i * 5 + 3)) = some (.bool r.put.past) ∧ W.cell? (x.add (i * 5 + 4)) = some (.int .i64 r.len) ∧ Rd .u8 W r.put.tv r.put.txt ∧ BytesL r.put.txt ∧ r.put.txt.length ≤ 9223372036854775807 ∧ I64 r.len
section
variable {H : Type} {enc : TypeId × Value → H} {P : Program} {W : World} {base : Nat} {held : Bool}
/-- A Put's cells. -/
theorem put_of_cells {t : TypeId} {f0 f1 f2 : Field} {q : TypeId} {fuel : Nat} {cs : List Value} {y : DataW H × List MemPlace}
    (he : P.underlying t = some (.struct #[f0, f1, f2])) (ce : P.cellsOf t = 3) (hl : cs.length = 3)
    (o0 : f0.offset = 0) (o1 : f1.offset = 1) (o2 : f2.offset = 2) (c0 : P.cellsOf f0.type = 1) (c1 : P.cellsOf f1.type = 1) (c2 : P.cellsOf f2.type = 1)
    (u0 : P.underlying f0.type = some (.int .i64)) (u1 : P.underlying f1.type = some (.slice q)) (uq : P.underlying q = some (.int .u8)) (cq : P.cellsOf q = 1) (u2 : P.underlying f2.type = some .bool)
    (h : DataW.trod enc P W base (fun _ => true) held fuel t cs = some y) : ∃ p : PutV, cs = [.int .i64 p.blk, p.tv, .bool p.past] ∧ Rd .u8 W p.tv p.txt ∧ BytesL p.txt ∧ p.txt.length ≤ 9223372036854775807 := by
  obtain ⟨xs, k, _, _, _, hxl, hfl⟩ := DataW.trod_struct he h
  match xs, hxl, cs, hl with
  | [y0, y1, y2], _, [v0, v1, v2], _ =>
    have g0 := hfl 0 f0 rfl
    have g1 := hfl 1 f1 rfl
    have g2 := hfl 2 f2 rfl
    simp [o0, o1, o2, c0, c1, c2] at g0 g1 g2
    obtain ⟨nb, rfl, _⟩ := int_of_trod u0 g0
    obtain ⟨zs, hr, hb, hz⟩ := bytes_of_trod u1 uq cq g1
    obtain ⟨bo, rfl⟩ := bool_of_trod u2 g2
    exact ⟨⟨nb, v1, zs, bo⟩, rfl, hr, hb, hz⟩
theorem put_of_trod {t : TypeId} {f0 f1 f2 : Field} {q : TypeId} {v : Value} {d : DataW H} {ps : List MemPlace} {r : Reach} {b0 : Nat}
    (hv : Value.okWide P W r b0 t v)
    (he : P.underlying t = some (.struct #[f0, f1, f2])) (ce : P.cellsOf t = 3)
    (o0 : f0.offset = 0) (o1 : f1.offset = 1) (o2 : f2.offset = 2) (c0 : P.cellsOf f0.type = 1) (c1 : P.cellsOf f1.type = 1) (c2 : P.cellsOf f2.type = 1)
    (u0 : P.underlying f0.type = some (.int .i64)) (u1 : P.underlying f1.type = some (.slice q)) (uq : P.underlying q = some (.int .u8)) (cq : P.cellsOf q = 1) (u2 : P.underlying f2.type = some .bool)
    (h : DataW.Trod enc P W base (fun _ => true) held t v d ps) : ∃ p : PutV, v = p.agg ∧ Rd .u8 W p.tv p.txt ∧ BytesL p.txt ∧ p.txt.length ≤ 9223372036854775807 := by
  obtain ⟨cs, rfl, hsz⟩ := okWide_struct he hv
  obtain ⟨fuel, hf⟩ := h
  simp only [Value.cells] at hf
  obtain ⟨p, hp, h1, h2, h3⟩ := put_of_cells he ce (by rw [Array.length_toList, hsz, ce]) o0 o1 o2 c0 c1 c2 u0 u1 uq cq u2 hf
  refine ⟨p, ?_, h1, h2, h3⟩
  unfold PutV.agg
  rw [← Array.toArray_toList (xs := cs), hp]
/-- A slice of Runs. -/
theorem runs_of_trod {t e e1 : TypeId} {f0 f1 f2 k0 k1 k2 : Field} {q : TypeId} {a : Option Addr} {len cap : Nat} {d : DataW H} {ps : List MemPlace} {ts : List TypeId} {ds : List (DataW H)} {j : Nat}
    (hsz : (DataW.weightsEach P ts ds).all (· ≤ reachBytes) = true) (ht : ts[j]? = some t) (hd : ds[j]? = some d) (hu : P.underlying t = some (.slice e)) (he : P.underlying e = some (.struct #[k0, k1, k2])) (ce : P.cellsOf e = 5) (hB : P.bytesOf e = 56)
    (q0 : k0.offset = 0) (q1 : k1.offset = 1) (q2 : k2.offset = 4) (z0 : P.cellsOf k0.type = 1) (z1 : P.cellsOf k1.type = 3) (z2 : P.cellsOf k2.type = 1)
    (w0 : P.underlying k0.type = some (.int .i64)) (w2 : P.underlying k2.type = some (.int .i64))
    (he1 : P.underlying k1.type = some (.struct #[f0, f1, f2]))
    (o0 : f0.offset = 0) (o1 : f1.offset = 1) (o2 : f2.offset = 2) (c0 : P.cellsOf f0.type = 1) (c1 : P.cellsOf f1.type = 1) (c2 : P.cellsOf f2.type = 1)
    (u0 : P.underlying f0.type = some (.int .i64)) (u1 : P.underlying f1.type = some (.slice q)) (uq : P.underlying q = some (.int .u8)) (cq : P.cellsOf q = 1) (u2 : P.underlying f2.type = some .bool)
    (h : DataW.Trod enc P W base (fun _ => true) held t (.slice a len cap) d ps) : ∃ xs, RunsR W (.slice a len cap) xs := by
  have hrb : reachBytes = 140737488351232 := by decide
  obtain ⟨fuel, hf⟩ := h
  rcases open_slice hu hf with ⟨hcs, _⟩ | ⟨x, l, c, m, n, D, Pl, hcs, _, hl, _, hm, hx, hall⟩
  · simp [Value.cells] at hcs
    obtain ⟨rfl, rfl, rfl⟩ := hcs
    exact ⟨[], by simp, .inl ⟨rfl, _, _, rfl⟩⟩
  · simp [Value.cells] at hcs
    obtain ⟨rfl, rfl, rfl⟩ := hcs
    obtain ⟨hx, _⟩ := Prod.mk.inj hx
    subst hx
    simp only [if_true] at hm
    subst hm
    have z := sized_slice hsz ht hd hu
    simp only [List.length_map, List.length_range, hB] at z
    have hlen : len * 56 ≤ 140737488351232 := by
      have : len * 56 ≤ (len + (m - len)) * 56 := Nat.mul_le_mul_right _ (by omega)
      omega
    rw [ce] at hall
    have each : ∀ i, i < len → ∃ p : RunV, w_run W x i p := by
      intro i hi
      obtain ⟨cs', h1, h2⟩ := hall i (by omega)
      obtain ⟨_, hlen3, hcell⟩ := World.cells?_some h1
      obtain ⟨xs, k, _, _, _, hxl, hfl⟩ := DataW.trod_struct he h2
      match xs, hxl, cs', hlen3 with
      | [y0, y1, y2], _, [v0, v1, v2, v3, v4], _ =>
        have g0 := hfl 0 k0 rfl
        have g1 := hfl 1 k1 rfl
        have g2 := hfl 2 k2 rfl
        simp [q0, q1, q2, z0, z1, z2] at g0 g1 g2
        have e0 := hcell 0 (by omega)
        have e1 := hcell 1 (by omega)
        have e2 := hcell 2 (by omega)
        have e3 := hcell 3 (by omega)
        have e4 := hcell 4 (by omega)
        rw [add_add] at e0 e1 e2 e3 e4
        obtain ⟨nk, rfl, _⟩ := int_of_trod w0 g0
        obtain ⟨nl, rfl, wl⟩ := int_of_trod w2 g2
        obtain ⟨p, hp, hr, hb, hz⟩ := put_of_cells he1 z1 (by simp) o0 o1 o2 c0 c1 c2 u0 u1 uq cq u2 g1
        simp only [List.cons.injEq, and_true] at hp
        obtain ⟨rfl, rfl, rfl⟩ := hp
        exact ⟨⟨nk, p, nl⟩, by simpa using e0, by simpa using e1, by simpa using e2, by simpa using e3, by simpa using e4, hr, hb, hz, wl⟩
    have each' : ∀ i, ∃ p : RunV, i < len → w_run W x i p := fun i => by
      by_cases hi : i < len
      · obtain ⟨p, hp⟩ := each i hi; exact ⟨p, fun _ => hp⟩
      · exact ⟨r0, fun h => absurd h hi⟩
    let q : Nat → RunV := fun i => (each' i).choose
    have hq : ∀ i, i < len → w_run W x i (q i) := fun i => (each' i).choose_spec
    refine ⟨(List.range len).map q, by simp; exact hlen, ?_⟩
    by_cases h0 : len = 0
    · exact .inl ⟨by rw [h0]; rfl, _, _, by rw [h0]⟩
    · obtain ⟨b, off, rfl⟩ := addr_plain (by have := (hq 0 (by omega)).1; rwa [Nat.zero_mul] at this)
      have hb0 := (hq 0 (by omega)).1
      rw [Go.WideShapes.add_plain] at hb0
      refine .inr ⟨b, off, m, by simp, by simp; omega, by simp; exact hl, World.block_lt_of_cell? W _ hb0, fun i hi => ?_⟩
      have hi' : i < len := by simpa using hi
      have hg : ((List.range len).map q).getD i r0 = q i := by
        rw [List.getD_eq_getElem?_getD, List.getElem?_map, List.getElem?_range hi']
        rfl
      rw [hg]
      obtain ⟨k0, k1, k2, k3, k4, k5, k6, k7, k8⟩ := hq i hi'
      rw [Go.WideShapes.add_plain] at k0 k1 k2 k3 k4
      exact ⟨k0, ⟨by rw [Nat.add_assoc]; exact k1, by rw [Nat.add_assoc, Nat.add_assoc]; exact k2, by rw [Nat.add_assoc, Nat.add_assoc]; exact k3, k5, k6, k7⟩, by rw [Nat.add_assoc]; exact k4, k8⟩
end
end Go.Proofs.Ytigfcoibbmndpaa
