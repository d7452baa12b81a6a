/- Maps keyed by int, read as functions: made, read, written, struck, gone over. -/
import Derived.Test.YtgehbfnfhjpjbaaDoorNewL
import Derived.Maps.RangeWalk
namespace Go.Proofs.YtgehbfnfhjpjbaaDoor
open Go.RowKit
open Go.MapKept Go.ChangeMaps
open Go.Maps (Keyed int_keyed keyOf_int_mk keyOf_int_inv)
set_option linter.unusedVariables false
set_option linter.unusedSimpArgs false
abbrev I64 (j : Int) : Prop := (Lit.int .i64 j).wf = true
def KeysI (es : Array MapEntry) : Prop := ∀ x ∈ es.toList, ∃ j, x.key = .int .i64 j ∧ I64 j
def EntI (es : Array MapEntry) (F : Int → Option Value) : Prop := ∀ j v, F j = some v ↔ ∃ x ∈ es.toList, x.key = .int .i64 j ∧ x.val = v
/-- Block b is a map that reads as F. -/
def MapI (w : World) (b : Nat) (F : Int → Option Value) : Prop := ∃ es clock, w.heap[b]? = some (.map es clock) ∧ Stamped es clock ∧ KeysI es ∧ EntI es F
theorem MapI.lt {w : World} {b : Nat} {F : Int → Option Value} (h : MapI w b F) : b < w.heap.size := by
  obtain ⟨es, c, hb, _⟩ := h; exact (Array.getElem?_eq_some_iff.1 hb).1
theorem MapI.keep {w w1 : World} {b : Nat} {F : Int → Option Value} (h : MapI w b F) (hk : w1.heap[b]? = w.heap[b]?) : MapI w1 b F := by
  obtain ⟨es, c, hb, h1⟩ := h; exact ⟨es, c, hk.trans hb, h1⟩
theorem MapI.congr {w : World} {b : Nat} {F G : Int → Option Value} (h : MapI w b F) (hG : ∀ j, G j = F j) : MapI w b G := by
  rw [show G = F from funext hG]; exact h
theorem MapI.wf {w : World} {b : Nat} {F : Int → Option Value} (h : MapI w b F) {j : Int} {v : Value} (hj : F j = some v) : I64 j := by
  obtain ⟨es, c, hb, hs, hk, he⟩ := h
  obtain ⟨x, hx, hxk, _⟩ := (he j v).1 hj
  obtain ⟨j', e, hw⟩ := hk x hx
  rw [hxk] at e
  simp only [Value.int.injEq, true_and] at e
  rw [e]; exact hw
theorem mapI_made (w : World) : MapI (w.alloc (.map #[] 0)) w.heap.size (fun _ => none) :=
  ⟨#[], 0, (MapKept.heap_alloc w _).1, stamped_empty 0, fun x hx => by simp at hx, fun j v => by simp⟩
section
variable {P : Program} {k e t : TypeId}
theorem KeysI.keys (hk : P.underlying k = some (.int .i64)) {es : Array MapEntry} (h : KeysI es) : ∀ x ∈ es.toList, ∃ l, keyOf P k x.key = some l := fun x hx => by
  obtain ⟨j, ej, hw⟩ := h x hx
  rw [ej]; exact ⟨_, keyOf_int_mk hk hw⟩
theorem entry_key_one {es : Array MapEntry} {clock : Nat} (hs : Stamped es clock) {x y : MapEntry} (hx : x ∈ es.toList) (hy : y ∈ es.toList) (h : x.key = y.key) : x = y :=
  entry_eq_of_key ((stamped_iff es clock).1 hs).2.2 hx hy h
/-- 'm[k]', 'v, ok := m[k]'. -/
theorem MapI.look (hk : P.underlying k = some (.int .i64)) (ht : P.underlying t = some (.map k e)) {w : World} {b : Nat} {F : Int → Option Value} (h : MapI w b F) {z : Value} (hz : (zeroValue e).run P w = .ok z w) (c : Bool) {j : Int} (hw : I64 j) :
    (Instr.lookup t (.map (some b)) (.int .i64 j) c).run P w = .ok (if c then .tuple #[(F j).getD z, .bool (F j).isSome] else (F j).getD z) w := by
  obtain ⟨es, clock, hb, hs, hks, he⟩ := h
  have K := int_keyed hk
  have hkey := keyOf_int_mk hk hw
  rcases K.find w hkey es.toList (hks.keys hk) with ⟨h1, h2⟩ | ⟨i, e0, h1, h2, h3⟩
  · have hF : F j = none := by
      cases hv : F j with
      | none => rfl
      | some v => obtain ⟨x, hx, hxk, _⟩ := (he j v).1 hv; exact absurd hxk (h2 x hx)
    rw [hF]
    simp [Instr.lookup, run_underlying ht, MapKept.run_getObj_map hb, K.check w _ hkey, h1, hz, Result.andThen]
  · have hF : F j = some e0.val := (he j e0.val).2 ⟨e0, List.mem_of_getElem? h2, h3, rfl⟩
    rw [hF]
    simp [Instr.lookup, run_underlying ht, MapKept.run_getObj_map hb, K.check w _ hkey, h1, Result.andThen]
def updI (F : Int → Option Value) (j : Int) (v : Option Value) : Int → Option Value := fun i => if i = j then v else F i
/-- Nothing turns but block b. -/
def OneB (w w1 : World) (b : Nat) : Prop := ∃ o, w1 = setBlock w b o
/-- 'm[k] = v'. -/
theorem MapI.store (hk : P.underlying k = some (.int .i64)) (ht : P.underlying t = some (.map k e)) {w : World} {b : Nat} {F : Int → Option Value} (h : MapI w b F) {j : Int} (hw : I64 j) (v : Value) :
    ∃ w1, (Instr.mapUpdate t (.map (some b)) (.int .i64 j) v).run P w = .ok () w1 ∧ MapI w1 b (updI F j (some v)) ∧ OneB w w1 b := by
  obtain ⟨es, clock, hb, hs, hks, he⟩ := h
  have K := int_keyed hk
  have hkey := keyOf_int_mk hk hw
  rcases K.find w hkey es.toList (hks.keys hk) with ⟨h1, h2⟩ | ⟨i, e0, h1, h2, h3⟩
  · refine ⟨_, ?_, ⟨es.push ⟨.int .i64 j, v, clock⟩, clock + 1, heap_setBlock_same hb _, stamped_push hs h2, ?_, ?_⟩, ⟨_, rfl⟩⟩
    · simp [Instr.mapUpdate, run_underlying ht, MapKept.run_getObj_map hb, K.check w false hkey, h1, MapKept.run_setObj_map _ hb, Result.andThen, setBlock]
    · intro x hx
      simp only [Array.toList_push, List.mem_append, List.mem_singleton] at hx
      rcases hx with hx | rfl
      · exact hks x hx
      · exact ⟨j, rfl, hw⟩
    · intro i u
      unfold updI
      by_cases hij : i = j
      · subst hij
        rw [if_pos rfl]
        constructor
        · intro hu
          exact ⟨⟨.int .i64 i, v, clock⟩, by simp, rfl, by simpa using hu⟩
        · rintro ⟨x, hx, hxk, hxv⟩
          simp only [Array.toList_push, List.mem_append, List.mem_singleton] at hx
          rcases hx with hx | rfl
          · exact absurd hxk (h2 x hx)
          · rw [← hxv]
      · rw [if_neg hij, he i u]
        constructor
        · rintro ⟨x, hx, h⟩; exact ⟨x, by simp [hx], h⟩
        · rintro ⟨x, hx, hxk, hxv⟩
          simp only [Array.toList_push, List.mem_append, List.mem_singleton] at hx
          rcases hx with hx | rfl
          · exact ⟨x, hx, hxk, hxv⟩
          · simp only [Value.int.injEq, true_and] at hxk; exact absurd hxk.symm hij
  · have hjl : i < es.toList.length := (List.getElem?_eq_some_iff.1 h2).1
    have hj : es[i]? = some e0 := by simpa using h2
    have hkeyf : ∀ e', es[i]? = some e' → ({ e' with key := .int .i64 j, val := v } : MapEntry).key = e'.key := fun e' he' => by rw [hj] at he'; cases he'; exact h3.symm
    have hlist : (es.modify i (fun e' => { e' with key := .int .i64 j, val := v })).toList = es.toList.set i { e0 with key := .int .i64 j, val := v } := by rw [Array.toList_modify, modify_eq_set _ _ _ _ h2]
    have who : ∀ x, x ∈ es.toList.set i { e0 with key := .int .i64 j, val := v } ↔ x = { e0 with key := .int .i64 j, val := v } ∨ (x ∈ es.toList ∧ x.key ≠ .int .i64 j) := by
      intro x
      constructor
      · intro hx
        obtain ⟨n, hn, ex⟩ := List.getElem_of_mem hx
        rw [List.getElem_set] at ex
        split at ex
        · exact Or.inl ex.symm
        · rename_i hne
          have hi' : n < es.toList.length := by simpa using hn
          have hxm : x ∈ es.toList := ex ▸ List.getElem_mem hi'
          refine Or.inr ⟨hxm, fun hk2 => hne ?_⟩
          have hxe : x = e0 := entry_key_one hs hxm (List.mem_of_getElem? h2) (by rw [hk2, h3])
          have hnd := ((stamped_iff es clock).1 hs).2.1
          have hn' : es.toList[n]? = some e0 := by rw [List.getElem?_eq_getElem hi', ex, hxe]
          have : (es.toList.map (·.born))[n]? = (es.toList.map (·.born))[i]? := by rw [List.getElem?_map, List.getElem?_map, hn', h2]
          exact ((List.getElem?_inj (by simpa using hi') hnd).1 this).symm
      · rintro (rfl | ⟨hx, hne⟩)
        · exact List.mem_iff_getElem.2 ⟨i, by simpa using hjl, by simp⟩
        · obtain ⟨n, hn, ex⟩ := List.getElem_of_mem hx
          refine List.mem_iff_getElem.2 ⟨n, by simpa using hn, ?_⟩
          rw [List.getElem_set, if_neg, ex]
          rintro rfl
          rw [List.getElem?_eq_getElem hn, ex] at h2
          exact hne (by rw [Option.some.inj h2]; exact h3)
    refine ⟨_, ?_, ⟨es.modify i (fun e' => { e' with key := .int .i64 j, val := v }), clock, heap_setBlock_same hb _, stamped_modify hs _ _ (fun _ _ => rfl) (fun e' _ he' => hkeyf e' he'), ?_, ?_⟩, ⟨_, rfl⟩⟩
    · simp [Instr.mapUpdate, run_underlying ht, MapKept.run_getObj_map hb, K.check w false hkey, h1, hj, h3, K.stays w hkey, MapKept.run_setObj_map _ hb, Result.andThen, setBlock]
    · intro x hx
      rw [hlist, who] at hx
      rcases hx with rfl | ⟨hx, _⟩
      · exact ⟨j, rfl, hw⟩
      · exact hks x hx
    · intro n u
      unfold updI
      rw [hlist]
      by_cases hij : n = j
      · subst hij
        rw [if_pos rfl]
        constructor
        · intro hu
          exact ⟨_, (who _).2 (.inl rfl), rfl, by simpa using hu⟩
        · rintro ⟨x, hx, hxk, hxv⟩
          rcases (who x).1 hx with rfl | ⟨_, hne⟩
          · rw [← hxv]
          · exact absurd hxk hne
      · rw [if_neg hij, he n u]
        constructor
        · rintro ⟨x, hx, hxk, hxv⟩
          exact ⟨x, (who x).2 (.inr ⟨hx, by rw [hxk]; simp [hij]⟩), hxk, hxv⟩
        · rintro ⟨x, hx, hxk, hxv⟩
          rcases (who x).1 hx with rfl | ⟨hx2, _⟩
          · simp only [Value.int.injEq, true_and] at hxk; exact absurd hxk.symm hij
          · exact ⟨x, hx2, hxk, hxv⟩
/-- What 'delete' leaves. -/
theorem drop_who (hk : P.underlying k = some (.int .i64)) (ht : P.underlying t = some (.map k e)) {w : World} {b : Nat} {es : Array MapEntry} {clock : Nat} (hb : w.heap[b]? = some (.map es clock)) (hs : Stamped es clock) (hks : KeysI es) {j : Int} (hw : I64 j) (ty : TypeId) :
    ∃ es', (Builtin.delete_ #[t, k] ty #[.map (some b), .int .i64 j]).run P w = .ok (.tuple #[]) (setBlock w b (.map es' clock)) ∧ Stamped es' clock ∧ es'.toList.Sublist es.toList ∧ ∀ x, x ∈ es'.toList ↔ (x ∈ es.toList ∧ x.key ≠ .int .i64 j) := by
  have K := int_keyed hk
  have hkey := keyOf_int_mk hk hw
  rcases K.find w hkey es.toList (hks.keys hk) with ⟨h1, h2⟩ | ⟨i, e0, h1, h2, h3⟩
  · refine ⟨es, ?_, hs, List.Sublist.refl _, fun x => ⟨fun hx => ⟨hx, h2 x hx⟩, fun hx => hx.1⟩⟩
    simp [Builtin.delete_, run_underlying ht, MapKept.run_getObj_map hb, K.check w _ hkey, h1, MapKept.run_setObj_map _ hb, Result.andThen, setBlock]
  · have hjl : i < es.toList.length := (List.getElem?_eq_some_iff.1 h2).1
    have hjs : i < es.size := by simpa using hjl
    have hsub : (es.eraseIdxIfInBounds i).toList = es.toList.eraseIdx i := by
      unfold Array.eraseIdxIfInBounds
      rw [dif_pos hjs]
      simp
    refine ⟨es.eraseIdxIfInBounds i, ?_, stamped_erase hs i, by rw [hsub]; exact List.eraseIdx_sublist _ _, fun x => ?_⟩
    · simp [Builtin.delete_, run_underlying ht, MapKept.run_getObj_map hb, K.check w _ hkey, h1, MapKept.run_setObj_map _ hb, Result.andThen, setBlock]
    · rw [hsub, List.mem_eraseIdx_iff_getElem?]
      constructor
      · rintro ⟨n, hne, hi⟩
        refine ⟨List.mem_of_getElem? hi, fun hk2 => hne ?_⟩
        have hxe : x = e0 := entry_key_one hs (List.mem_of_getElem? hi) (List.mem_of_getElem? h2) (by rw [hk2, h3])
        have hnd := ((stamped_iff es clock).1 hs).2.1
        have hnl : n < es.toList.length := (List.getElem?_eq_some_iff.1 hi).1
        have : (es.toList.map (·.born))[n]? = (es.toList.map (·.born))[i]? := by rw [List.getElem?_map, List.getElem?_map, hi, h2, hxe]
        exact (List.getElem?_inj (by simpa using hnl) hnd).1 this
      · rintro ⟨hx, hne⟩
        obtain ⟨n, hi⟩ := List.getElem?_of_mem hx
        refine ⟨n, fun e1 => hne ?_, hi⟩
        rw [e1, h2] at hi
        cases hi
        exact h3
theorem EntI.drop {es es' : Array MapEntry} {F : Int → Option Value} {j : Int} (he : EntI es F) (hwho : ∀ x, x ∈ es'.toList ↔ (x ∈ es.toList ∧ x.key ≠ .int .i64 j)) : EntI es' (updI F j none) := by
  intro n u
  unfold updI
  by_cases hij : n = j
  · subst hij
    rw [if_pos rfl]
    constructor
    · intro h; simp at h
    · rintro ⟨x, hx, hxk, _⟩; exact absurd hxk ((hwho x).1 hx).2
  · rw [if_neg hij, he n u]
    constructor
    · rintro ⟨x, hx, hxk, hxv⟩; exact ⟨x, (hwho x).2 ⟨hx, by rw [hxk]; simp [hij]⟩, hxk, hxv⟩
    · rintro ⟨x, hx, hxk, hxv⟩; exact ⟨x, ((hwho x).1 hx).1, hxk, hxv⟩
/-- 'delete(m, k)'. -/
theorem MapI.del (hk : P.underlying k = some (.int .i64)) (ht : P.underlying t = some (.map k e)) {w : World} {b : Nat} {F : Int → Option Value} (h : MapI w b F) {j : Int} (hw : I64 j) (ty : TypeId) :
    ∃ w1, (Builtin.delete_ #[t, k] ty #[.map (some b), .int .i64 j]).run P w = .ok (.tuple #[]) w1 ∧ MapI w1 b (updI F j none) ∧ OneB w w1 b := by
  obtain ⟨es, clock, hb, hs, hks, he⟩ := h
  obtain ⟨es', hrun, hs', hsub, hwho⟩ := drop_who hk ht hb hs hks hw ty
  exact ⟨_, hrun, ⟨es', clock, heap_setBlock_same hb _, hs', fun x hx => hks x ((hwho x).1 hx).1, he.drop hwho⟩, ⟨_, rfl⟩⟩
/-- A range over the map under way: L: which keys are still to come; n: how many. -/
def RangeI (w : World) (b r : Nat) (F : Int → Option Value) (L : Int → Bool) (n : Nat) : Prop :=
  ∃ es clock since seen c0, w.heap[b]? = some (.map es clock) ∧ Stamped es clock ∧ KeysI es ∧ EntI es F ∧ w.heap[r]? = some (.mapIter (some b) since seen c0) ∧ (∀ x ∈ es.toList, x.born < since) ∧ since ≤ c0 ∧ since ≤ clock ∧ (leftOf es seen).size = n ∧
    ∀ j, L j = true ↔ ∃ x ∈ es.toList, x.key = .int .i64 j ∧ seen.contains x.born = false
theorem RangeI.map {w : World} {b r : Nat} {F : Int → Option Value} {L : Int → Bool} {n : Nat} (h : RangeI w b r F L n) : MapI w b F := by
  obtain ⟨es, clock, since, seen, c0, h1, h2, h3, h4, _⟩ := h; exact ⟨es, clock, h1, h2, h3, h4⟩
theorem RangeI.ne {w : World} {b r : Nat} {F : Int → Option Value} {L : Int → Bool} {n : Nat} (h : RangeI w b r F L n) : r ≠ b := by
  obtain ⟨es, clock, since, seen, c0, h1, h2, h3, h4, h5, _⟩ := h
  intro e; rw [e, h1] at h5; cases h5
theorem RangeI.lt {w : World} {b r : Nat} {F : Int → Option Value} {L : Int → Bool} {n : Nat} (h : RangeI w b r F L n) : r < w.heap.size := by
  obtain ⟨es, clock, since, seen, c0, h1, h2, h3, h4, h5, _⟩ := h
  exact (Array.getElem?_eq_some_iff.1 h5).1
theorem RangeI.keep {w w1 : World} {b r : Nat} {F : Int → Option Value} {L : Int → Bool} {n : Nat} (h : RangeI w b r F L n) (hb : w1.heap[b]? = w.heap[b]?) (hr : w1.heap[r]? = w.heap[r]?) : RangeI w1 b r F L n := by
  obtain ⟨es, clock, since, seen, c0, h1, h2, h3, h4, h5, h6⟩ := h
  exact ⟨es, clock, since, seen, c0, hb.trans h1, h2, h3, h4, hr.trans h5, h6⟩
theorem RangeI.sub {w : World} {b r : Nat} {F : Int → Option Value} {L : Int → Bool} {n : Nat} (h : RangeI w b r F L n) {j : Int} (hj : L j = true) : ∃ v, F j = some v := by
  obtain ⟨es, clock, since, seen, c0, h1, h2, h3, h4, h5, h6, h7, h8, h9, h10⟩ := h
  obtain ⟨x, hx, hxk, _⟩ := (h10 j).1 hj
  exact ⟨x.val, (h4 j x.val).2 ⟨x, hx, hxk, rfl⟩⟩
/-- 'range m'. -/
theorem MapI.range (ht : P.underlying t = some (.map k e)) {w : World} {b : Nat} {F : Int → Option Value} (h : MapI w b F) :
    ∃ w1 n, (Instr.range t (.map (some b))).run P w = .ok (.pointer (some ⟨w.heap.size, 0, none⟩)) w1 ∧ RangeI w1 b w.heap.size F (fun j => (F j).isSome) n ∧ ∃ o, w1 = w.alloc o := by
  have hlt := h.lt
  obtain ⟨es, clock, hb, hs, hks, he⟩ := h
  refine ⟨_, _, run_range_map w t k e b es clock ht hb, ⟨es, clock, clock, #[], clock, ((MapKept.heap_alloc w _).2 b hlt).trans hb, hs, hks, he, (MapKept.heap_alloc w _).1, hs.1, Nat.le_refl _, Nat.le_refl _, rfl, fun j => ?_⟩, ⟨_, rfl⟩⟩
  constructor
  · intro hj
    obtain ⟨v, hv⟩ := Option.isSome_iff_exists.1 hj
    obtain ⟨x, hx, hxk, _⟩ := (he j v).1 hv
    exact ⟨x, hx, hxk, by simp⟩
  · rintro ⟨x, hx, hxk, _⟩
    show (F j).isSome = true
    rw [(he j x.val).2 ⟨x, hx, hxk, rfl⟩]; rfl
/-- The step. -/
theorem RangeI.next {w : World} {b r : Nat} {F : Int → Option Value} {L : Int → Bool} {n : Nat} (h : RangeI w b r F L n) (ty : TypeId) :
    (n = 0 ∧ (∀ j, L j = false) ∧ (Instr.next (.pointer (some ⟨r, 0, none⟩)) false ty).run P w = .ok (.tuple #[.bool false]) w) ∨
    ∃ j v w1 n1, I64 j ∧ L j = true ∧ F j = some v ∧ (Instr.next (.pointer (some ⟨r, 0, none⟩)) false ty).run P w = .ok (.tuple #[.bool true, .int .i64 j, v]) w1 ∧
      RangeI w1 b r F (fun i => L i && !decide (i = j)) n1 ∧ n1 < n ∧ w.grownBy w1 (some r) ∧ w1.heap.size = w.heap.size ∧ (Instr.entry (.pointer (some ⟨r, 0, none⟩))).run P w1 = .ok (.tuple #[.int .i64 j, v]) w1 := by
  have hne := h.ne
  obtain ⟨es, clock, since, seen, c0, hb, hs, hks, he, hr, hold, hsc, hsk, rfl, hL⟩ := h
  rcases run_next_at (P := P) w ty r b since c0 seen es clock hr hb hold hsc with ⟨h0, hrun⟩ | ⟨e, hem0, w1, hal, hrun⟩
  · refine Or.inl ⟨h0, fun j => ?_, hrun⟩
    cases hk : L j
    · rfl
    · obtain ⟨x, hx, hxk, hxs⟩ := (hL j).1 hk
      rw [all_seen es seen h0 x hx] at hxs
      cases hxs
  · obtain ⟨hem, hes⟩ := mem_left hem0
    obtain ⟨j, ej, hw⟩ := hks e hem
    have hr1 : w1.heap[r]? = some (.mapIter (some b) since seen c0) := by rcases hal with rfl | rfl <;> exact hr
    have hb1 : w1.heap[b]? = some (.map es clock) := by rcases hal with rfl | rfl <;> exact hb
    have hset := heap_set (o' := .mapIter (some b) since (seen.push e.born) clock) hr1
    have hb' : (setBlock w1 r (.mapIter (some b) since (seen.push e.born) clock)).heap[b]? = some (.map es clock) := (hset.2 b (fun e1 => hne e1.symm)).trans hb1
    have hen := run_entry_at (P := P) _ r b since seen es clock e hset.1 hb' hem ((stamped_iff es clock).1 hs).2.1
    rw [ej] at hrun hen
    refine Or.inr ⟨j, e.val, _, _, hw, (hL j).2 ⟨e, hem, ej, by simpa using hes⟩, (he j e.val).2 ⟨e, hem, ej, rfl⟩, hrun, ⟨es, clock, since, seen.push e.born, clock, hb', hs, hks, he, hset.1, hold, hsk, hsk, rfl, fun i => ?_⟩, left_shrinks es seen e hem0, ?_, ?_, hen⟩
    · constructor
      · intro hi
        simp only [Bool.and_eq_true, Bool.not_eq_true', decide_eq_false_iff_not] at hi
        obtain ⟨x, hx, hxk, hxs⟩ := (hL i).1 hi.1
        refine ⟨x, hx, hxk, ?_⟩
        rw [contains_push, hxs, Bool.false_or, beq_eq_false_iff_ne]
        intro hb2
        have := born_inj ((stamped_iff es clock).1 hs).2.1 hx hem hb2
        rw [this, ej] at hxk
        simp only [Value.int.injEq, true_and] at hxk
        exact hi.2 hxk.symm
      · rintro ⟨x, hx, hxk, hxs⟩
        rw [contains_push] at hxs
        simp only [Bool.or_eq_false_iff] at hxs
        simp only [Bool.and_eq_true, Bool.not_eq_true', decide_eq_false_iff_not]
        refine ⟨(hL i).2 ⟨x, hx, hxk, hxs.1⟩, ?_⟩
        rintro rfl
        have := entry_key_one hs hx hem (by rw [hxk, ej])
        rw [this] at hxs
        simp at hxs
    · rcases hal with rfl | rfl <;> exact ⟨rfl, rfl, rfl, by simp [setBlock], fun i _ hi => hset.2 i (fun e1 => hi (by rw [e1]))⟩
    · rcases hal with rfl | rfl <;> simp [setBlock]
/-- 'delete(m, k)' while the map is gone over. -/
theorem RangeI.del (hk : P.underlying k = some (.int .i64)) (ht : P.underlying t = some (.map k e)) {w : World} {b r : Nat} {F : Int → Option Value} {L : Int → Bool} {n : Nat} (h : RangeI w b r F L n) {j : Int} (hw : I64 j) (ty : TypeId) :
    ∃ w1 n1, (Builtin.delete_ #[t, k] ty #[.map (some b), .int .i64 j]).run P w = .ok (.tuple #[]) w1 ∧ RangeI w1 b r (updI F j none) (fun i => L i && !decide (i = j)) n1 ∧ n1 ≤ n ∧ OneB w w1 b := by
  have hne := h.ne
  obtain ⟨es, clock, since, seen, c0, hb, hs, hks, he, hr, hold, hsc, hsk, rfl, hL⟩ := h
  obtain ⟨es', hrun, hs', hsub, hwho⟩ := drop_who hk ht hb hs hks hw ty
  refine ⟨_, _, hrun, ⟨es', clock, since, seen, c0, heap_setBlock_same hb _, hs', fun x hx => hks x ((hwho x).1 hx).1, he.drop hwho, (heap_setBlock_other hb _ hne).trans hr, fun x hx => hold x ((hwho x).1 hx).1, hsc, hsk, rfl, fun i => ?_⟩, ?_, ⟨_, rfl⟩⟩
  · constructor
    · intro hi
      simp only [Bool.and_eq_true, Bool.not_eq_true', decide_eq_false_iff_not] at hi
      obtain ⟨x, hx, hxk, hxs⟩ := (hL i).1 hi.1
      exact ⟨x, (hwho x).2 ⟨hx, by rw [hxk]; simp [hi.2]⟩, hxk, hxs⟩
    · rintro ⟨x, hx, hxk, hxs⟩
      obtain ⟨hx1, hx2⟩ := (hwho x).1 hx
      simp only [Bool.and_eq_true, Bool.not_eq_true', decide_eq_false_iff_not]
      exact ⟨(hL i).2 ⟨x, hx1, hxk, hxs⟩, fun e1 => hx2 (by rw [hxk, e1])⟩
  · have e1 : ∀ a : Array MapEntry, (leftOf a seen).size = (a.toList.filter fun e => !seen.contains e.born).length := fun a => by
      unfold leftOf
      rw [← Array.toList_filter, Array.length_toList]
    rw [e1, e1]
    exact (hsub.filter _).length_le
end
end Go.Proofs.YtgehbfnfhjpjbaaDoor
