/- The whole text as the reader reads it. -/
import Derived.Test.YtbfebfeliddpnaaDoorPrJ
import Derived.Outline
import Derived.Deep.CutRange
namespace Go.Proofs.YtbfebfeliddpnaaDoor
open Go.RowKit
open Go.ChangeMaps
set_option linter.unusedVariables false
set_option linter.unusedSimpArgs false
def Dm.arr (m : Dm) (vb vs : Value) : Array Value := #[.int .u64 (m.sq : Nat), .int .i64 (m.bl : Nat), .int .i64 (m.sz : Nat), .int .i64 (m.sl : Nat), .int .u64 (m.g0 : Nat), .int .u64 (m.g1 : Nat), .int .u64 (m.g2 : Nat), .int .u64 (m.g3 : Nat), .int .u32 (m.fl : Nat), .int .i64 (m.mr : Nat), vb, vs]
theorem own_form {w : World} {B : Nat} {e : TypeId} {k n : Nat} {v : Value} {xs : List Value} (h : w.ownsRow B e k v n xs) : ∃ A c, v = .slice A n c := by
  rcases h.2 with ⟨rfl, h0⟩ | ⟨g, cap, cur, rfl, _⟩
  · subst h0; exact ⟨_, _, rfl⟩
  · exact ⟨_, _, rfl⟩
theorem readQ_cases {α : Type} {w : World} {r : Nat} {s : ByteArray} {x : Except Nat (α × List Tk)} {val : α → Value} {e : Ending} {w' : World} (h : ReadQ w r s x val e w') {X : Except Nat Dm} {K : α → List Tk → Except Nat Dm} (hX : X = thenE x K) :
    OnlyP (fun b => b = r) w w' ∧ ((∃ p, e = faultE p ∧ X = .error p) ∨ (∃ v i, e = .returned (val v) ∧ i ≤ s.size ∧ RdB w' r s i ∧ x = .ok (v, toks s i) ∧ X = K v (toks s i))) := by
  obtain ⟨ho, h⟩ := h
  refine ⟨ho, ?_⟩
  cases x with
  | error p => exact .inl ⟨p, h, hX⟩
  | ok y =>
    obtain ⟨v, l⟩ := y
    obtain ⟨he, i, hi, hr, rfl⟩ := h
    exact .inr ⟨v, i, he, hi, hr, rfl, hX⟩
theorem slotsQ_cases {w : World} {r : Nat} {s : ByteArray} {x : Except Nat (List Int × List Tk)} {e : Ending} {w' : World} (h : SlotsQ w r s x e w') {X : Except Nat Dm} {K : List Int → List Tk → Except Nat Dm} (hX : X = thenE x K) :
    OnlyP (fun b => b = r) w w' ∧ ((∃ p, e = faultE p ∧ X = .error p) ∨ (∃ vs i A c, e = .returned (.slice A vs.length c) ∧ w'.ownsRow w.heap.size 3 1 (.slice A vs.length c) vs.length (vs.map (Value.int .i64)) ∧ i ≤ s.size ∧ RdB w' r s i ∧ X = K vs (toks s i))) := by
  obtain ⟨ho, h⟩ := h
  refine ⟨ho, ?_⟩
  cases x with
  | error p => exact .inl ⟨p, h, hX⟩
  | ok y =>
    obtain ⟨v, l⟩ := y
    obtain ⟨u, he, hw, i, hi, hr, rfl⟩ := h
    obtain ⟨A, c, rfl⟩ := own_form hw
    exact .inr ⟨v, i, A, c, he, hw, hi, hr, hX⟩
theorem bitsQ_cases {w : World} {r : Nat} {s : ByteArray} {n : Nat} {x : Except Nat ((Nat → Bool) × List Tk)} {e : Ending} {w' : World} (h : BitsQ w r s n x e w') {X : Except Nat Dm} {K : (Nat → Bool) → List Tk → Except Nat Dm} (hX : X = thenE x K) :
    OnlyP (fun b => b = r) w w' ∧ ((∃ p, e = faultE p ∧ X = .error p) ∨ (∃ f i B, e = .returned (.slice (some ⟨B, 0, none⟩) ((n + 63) / 64) ((n + 63) / 64)) ∧ w.heap.size ≤ B ∧ RowA .u64 22 w' B ((n + 63) / 64) (fun k => (wd f n k : Nat)) ∧ i ≤ s.size ∧ RdB w' r s i ∧ X = K f (toks s i))) := by
  obtain ⟨ho, h⟩ := h
  refine ⟨ho, ?_⟩
  cases x with
  | error p => exact .inl ⟨p, h, hX⟩
  | ok y =>
    obtain ⟨f, l⟩ := y
    obtain ⟨u, he, ⟨B, rfl, hB, hw⟩, i, hi, hr, rfl⟩ := h
    exact .inr ⟨f, i, B, he, hB, hw, hi, hr, hX⟩
theorem inF_in {lo hi : Nat} {s : ByteArray} {l : List Tk} {v : Nat} {l2 : List Tk} (h : readF s (inF lo hi) l = .ok (v, l2)) : lo ≤ v ∧ v ≤ hi := by
  rcases l with _ | ⟨t, l⟩
  · simp [readF] at h
  · cases t with
    | word a b =>
      simp only [readF] at h
      have key : ∀ y, inF lo hi (s.extract a b) = some y → lo ≤ y ∧ y ≤ hi := by
        intro y hy
        unfold inF at hy
        cases hn : numOf (s.extract a b) with
        | none => rw [hn] at hy; exact absurd hy (by simp)
        | some q =>
          rw [hn] at hy
          simp only at hy
          by_cases hq : lo ≤ q ∧ q ≤ hi
          · rw [if_pos hq] at hy; obtain rfl := Option.some.inj hy; exact hq
          · rw [if_neg hq] at hy; exact absurd hy (by simp)
      cases hf : inF lo hi (s.extract a b) with
      | none => rw [hf] at h; exact absurd h (by simp)
      | some y =>
        rw [hf] at h
        simp only [Except.ok.injEq, Prod.mk.injEq] at h
        rw [← h.1]
        exact key y hf
    | semi a => simp [readF] at h
    | bad a => simp [readF] at h
    | fin a => simp [readF] at h
set_option maxHeartbeats 400000 in
theorem extents_ok (bl : Nat) (w : World) (h : bl ≤ 65536) : Calls Tryd.prog 47 #[.int .i64 (bl : Nat)] w fun e w' => e = .returned (.int .i64 (exts bl : Nat)) ∧ w' = w := by
  have he : ((bl : Int) + 3) / 4 = ((exts bl : Nat) : Int) := by unfold exts; omega
  have he2 : ((bl : Int) + 4 - 1) / 4 = ((exts bl : Nat) : Int) := by unfold exts; omega
  go_enter Tryd.func47, Tryd.ntmps47
  go_wp2_with fail
  (go_ret; exact ⟨by rw [he2]; rfl, rfl⟩)
theorem pEnd_toks (m : Dm) (s : ByteArray) (i : Nat) (h : i ≤ s.size) : pEnd m (toks s i) = if skip s false i < s.size then .error (skip s false i) else .ok m := by
  rcases tkOf_cases s i h with ⟨j, h1, h2, e1, _, e⟩ | ⟨j, h1, h2, e1, _, _, e, h3, _⟩ | ⟨j, h1, h2, e1, _, _, e⟩ | ⟨e1, e⟩
  · rw [toks_go s i h (by rw [e]; rfl), e, e1, if_pos h2]; rfl
  · rw [toks_go s i h (by rw [e]; rfl), e, e1, if_pos h2]; rfl
  · rw [toks_halt s i (by rw [e]; rfl), e, e1, if_pos h2]; rfl
  · rw [toks_halt s i (by rw [e]; rfl), e, e1, if_neg (by omega)]; rfl
theorem own_lower {w : World} {B C : Nat} {e : TypeId} {k n : Nat} {v : Value} {xs : List Value} (h : w.ownsRow B e k v n xs) (hC : C ≤ B) : w.ownsRow C e k v n xs := by
  refine ⟨h.1, ?_⟩
  rcases h.2 with h | ⟨g, cap, cur, rfl, a1, a2⟩
  · exact .inl h
  · exact .inr ⟨g, cap, cur, rfl, Nat.le_trans hC a1, a2⟩
/-- Under way: block M holds the dump so far, block R the answer's place. -/
structure DumpAt (w wr : World) (r M R : Nat) (s : ByteArray) (i : Nat) (cs zs : Array Value) : Prop where
  blk : Blk wr M 31 cs
  res : Blk wr R 31 zs
  rd : RdB wr r s i
  only : OnlyP (fun b => b = r) w wr
  tab : FlagTab wr
  rM : r ≠ M
  rR : r ≠ R
  MR : M ≠ R
  hM : w.heap.size ≤ M
  hR : w.heap.size ≤ R
  rl : r < w.heap.size
  tr : 0 ≠ r
  tl : 0 < w.heap.size
theorem DumpAt.step {w wr w2 : World} {r M R i i2 : Nat} {s : ByteArray} {cs zs : Array Value} (h : DumpAt w wr r M R s i cs zs) (ho : OnlyP (fun b => b = r) wr w2) (hr : RdB w2 r s i2) : DumpAt w w2 r M R s i2 cs zs :=
  ⟨(ho.block M h.blk.lt (fun e => h.rM e.symm)).trans h.blk, (ho.block R h.res.lt (fun e => h.rR e.symm)).trans h.res, hr, h.only.then ho, h.tab.only ho h.tr, h.rM, h.rR, h.MR, h.hM, h.hR, h.rl, h.tr, h.tl⟩
theorem DumpAt.put {w wr : World} {r M R i : Nat} {s : ByteArray} {cs zs : Array Value} (h : DumpAt w wr r M R s i cs zs) (k : Nat) (v : Value) : DumpAt w (wr.setCell ⟨M, k, none⟩ v) r M R s i (cs.setIfInBounds k v) zs :=
  ⟨h.blk.set k v, h.res.far (fun e => h.MR e.symm) v, Blk.far h.rd h.rM v, h.only.set (p := ⟨M, k, none⟩) (.inr h.hM) v, let ⟨t, ht⟩ := h.tab; ⟨t, ht.far (p := ⟨M, k, none⟩) (by have h8 := h.tl; have h9 := h.hM; intro e; simp only at e; omega) v⟩, h.rM, h.rR, h.MR, h.hM, h.hR, h.rl, h.tr, h.tl⟩
theorem DumpAt.drew {w wr : World} {r M R i : Nat} {s : ByteArray} {cs zs : Array Value} (h : DumpAt w wr r M R s i cs zs) : DumpAt w wr.drew r M R s i cs zs :=
  ⟨h.blk, h.res, h.rd, h.only.drew, h.tab, h.rM, h.rR, h.MR, h.hM, h.hR, h.rl, h.tr, h.tl⟩
/-- Some cells of one block, laid in turn. -/
def sets (w : World) (R : Nat) : Nat → List Value → World
  | _, [] => w
  | i, v :: vs => sets (w.setCell ⟨R, i, none⟩ v) R (i + 1) vs
theorem OnlyP.sets {O : Nat → Prop} {w : World} {R : Nat} (hR : O R ∨ w.heap.size ≤ R) : ∀ (vs : List Value) (i : Nat) (w1 : World), OnlyP O w w1 → OnlyP O w (sets w1 R i vs)
  | [], _, _, h => h
  | v :: vs, i, w1, h => OnlyP.sets hR vs (i + 1) _ (h.set (p := ⟨R, i, Option.none⟩) hR v)
theorem RowA.sets {k : IntKind} {t : TypeId} {B n R : Nat} {f : Nat → Int} (hR : B ≠ R) : ∀ (vs : List Value) (i : Nat) (w1 : World), RowA k t w1 B n f → RowA k t (sets w1 R i vs) B n f
  | [], _, _, h => h
  | v :: vs, i, w1, h => RowA.sets hR vs (i + 1) _ (h.far (p := ⟨R, i, none⟩) hR v)
theorem Blk.sets {w : World} {R : Nat} {T : TypeId} {a0 a1 a2 a3 a4 a5 a6 a7 a8 a9 a10 a11 : Value} (h : Blk w R T #[a0, a1, a2, a3, a4, a5, a6, a7, a8, a9, a10, a11]) (b0 b1 b2 b3 b4 b5 b6 b7 b8 b9 b10 b11 : Value) : Blk (sets w R 0 [b0, b1, b2, b3, b4, b5, b6, b7, b8, b9, b10, b11]) R T #[b0, b1, b2, b3, b4, b5, b6, b7, b8, b9, b10, b11] := by
  have h0 : Blk _ R T #[b0, a1, a2, a3, a4, a5, a6, a7, a8, a9, a10, a11] := h.set 0 b0
  have h1 : Blk _ R T #[b0, b1, a2, a3, a4, a5, a6, a7, a8, a9, a10, a11] := h0.set 1 b1
  have h2 : Blk _ R T #[b0, b1, b2, a3, a4, a5, a6, a7, a8, a9, a10, a11] := h1.set 2 b2
  have h3 : Blk _ R T #[b0, b1, b2, b3, a4, a5, a6, a7, a8, a9, a10, a11] := h2.set 3 b3
  have h4 : Blk _ R T #[b0, b1, b2, b3, b4, a5, a6, a7, a8, a9, a10, a11] := h3.set 4 b4
  have h5 : Blk _ R T #[b0, b1, b2, b3, b4, b5, a6, a7, a8, a9, a10, a11] := h4.set 5 b5
  have h6 : Blk _ R T #[b0, b1, b2, b3, b4, b5, b6, a7, a8, a9, a10, a11] := h5.set 6 b6
  have h7 : Blk _ R T #[b0, b1, b2, b3, b4, b5, b6, b7, a8, a9, a10, a11] := h6.set 7 b7
  have h8 : Blk _ R T #[b0, b1, b2, b3, b4, b5, b6, b7, b8, a9, a10, a11] := h7.set 8 b8
  have h9 : Blk _ R T #[b0, b1, b2, b3, b4, b5, b6, b7, b8, b9, a10, a11] := h8.set 9 b9
  have h10 : Blk _ R T #[b0, b1, b2, b3, b4, b5, b6, b7, b8, b9, b10, a11] := h9.set 10 b10
  exact h10.set 11 b11
theorem dump_results (tmps : Array Value) (w : World) (g : Nat) {b0 b1 b2 b3 b4 b5 b6 b7 b8 b9 b10 b11 : Value} (hp : tmps.getD 2 undef = .pointer (some ⟨g, 0, none⟩)) (H : Blk w g 31 #[b0, b1, b2, b3, b4, b5, b6, b7, b8, b9, b10, b11]) :
    (results Tryd.f24 tmps).run Tryd.prog w = .ok (.agg #[b0, b1, b2, b3, b4, b5, b6, b7, b8, b9, b10, b11]) w := by
  have hp' : tmps[2]?.getD undef = .pointer (some ⟨g, 0, none⟩) := by simpa using hp
  have d0 := H.cell 0
  have d1 := H.cell 1
  have d2 := H.cell 2
  have d3 := H.cell 3
  have d4 := H.cell 4
  have d5 := H.cell 5
  have d6 := H.cell 6
  have d7 := H.cell 7
  have d8 := H.cell 8
  have d9 := H.cell 9
  have d10 := H.cell 10
  have d11 := H.cell 11
  simp only [List.getElem?_toArray, List.getElem?_cons_zero, List.getElem?_cons_succ] at d0 d1 d2 d3 d4 d5 d6 d7 d8 d9 d10 d11
  simp [results, Tryd.results24, hp', asAddr, go_sem, d0, d1, d2, d3, d4, d5, d6, d7, d8, d9, d10, d11]
def DumpQ (w : World) (r : Nat) (s : ByteArray) (x : Except Nat Dm) (e : Ending) (w' : World) : Prop :=
  OnlyP (fun b => b = r) w w' ∧ match x with
    | .error p => e = faultE p
    | .ok m => ∃ vb vs, e = .returned (.agg (m.arr vb vs)) ∧ WordsIn w.heap.size w' vb m.bl m.bits ∧ w'.ownsRow w.heap.size 3 1 vs m.slots.length (m.slots.map (Value.int .i64))
def zDump : Array Value := #[.int .u64 0, .int .i64 0, .int .i64 0, .int .i64 0, .int .u64 0, .int .u64 0, .int .u64 0, .int .u64 0, .int .u32 0, .int .i64 0, .slice none 0 0, .slice none 0 0]
set_option maxHeartbeats 40000000 in
set_option maxRecDepth 100000 in
theorem dump_ok (w : World) (r : Nat) (s : ByteArray) (i0 : Nat) (h : RdB w r s i0) (hi0 : i0 ≤ s.size) (hs : s.size ≤ 65536) (ht : FlagTab w) :
    Calls Tryd.prog 24 #[.pointer (some ⟨r, 0, none⟩)] w (DumpQ w r s (pMeta s dm0 (toks s i0))) := by
  obtain ⟨X, eX⟩ : ∃ X, X = pMeta s dm0 (toks s i0) := ⟨_, rfl⟩
  rw [← eX]
  obtain ⟨Q, eQ⟩ : ∃ Q, Q = DumpQ w r s X := ⟨_, rfl⟩
  rw [← eQ]
  have EQ := Lib.hid eQ
  have HX0 := Lib.hid eX
  obtain ⟨R, eR⟩ : ∃ x, x = w.heap.size := ⟨_, rfl⟩
  obtain ⟨M, eM⟩ : ∃ x, x = w.heap.size + 1 := ⟨_, rfl⟩
  have hrl : r < w.heap.size := Blk.lt h
  have htl : 0 < w.heap.size := BlkG.lt ht
  obtain ⟨wa, ewa⟩ : ∃ x, x = w.alloc (.cells zDump 31) := ⟨_, rfl⟩
  obtain ⟨w0, ew0⟩ : ∃ x, x = wa.alloc (.cells zDump 31) := ⟨_, rfl⟩
  have hza : wa.heap.size = w.heap.size + 1 := by rw [ewa]; simp
  have HD0 : Hid (DumpAt w w0 r M R s i0 #[.int .u64 0, .int .i64 0, .int .i64 0, .int .i64 0, .int .u64 0, .int .u64 0, .int .u64 0, .int .u64 0, .int .u32 0, .int .i64 0, .slice none 0 0, .slice none 0 0] zDump) := Lib.hid (by
    refine ⟨?_, ?_, ?_, ?_, ?_, by omega, by omega, by omega, by omega, by omega, hrl, ht.ne h (by simp), htl⟩
    · rw [ew0, eM, ← hza]; exact Blk.new _ _ _
    · rw [ew0, ewa, eR]; exact (Blk.new _ _ _).alloc _
    · rw [ew0, ewa]; exact (Blk.alloc h _).alloc _
    · rw [ew0, ewa]; exact ((OnlyP.refl _ _).alloc _).alloc _
    · obtain ⟨t, ht⟩ := ht; rw [ew0, ewa]; exact ⟨t, (ht.alloc _).alloc _⟩)
  have hfault : ∀ p w', OnlyP (fun b => b = r) w w' → X = .error p → Q (faultE p) w' := by
    intro p w' ho hx
    rw [EQ.out]
    refine ⟨ho, ?_⟩
    rw [hx]
  have HFAULT := Lib.hid hfault
  unfold zDump at ewa ew0
  clear eQ eX h ht hfault
  go_enter Tryd.func24, Tryd.ntmps24
  go_upto_region 3 with (fail)
  rw [show w.heap.size + 1 = M from eM.symm, show w.heap.size = R from eR.symm, ← ewa, ← ew0]
  clear ewa ew0 eM eR hza
  -- step 0
  have HC0 := Lib.hid (want_word wMeta (by decide) w0 r s i0 HD0.out.rd hi0 hs)
  unfold wMeta at HC0
  go_wp2_with fail
  refine HC0.out.mono ?_
  intro e w1 hq
  obtain ⟨ho, ⟨p, rfl, hx⟩ | ⟨_, i1, rfl, hi1, hr, hok, hx⟩⟩ := readQ_cases hq HX0.out
  · have HF := Lib.hid (HFAULT.out p w1 (HD0.out.only.then ho) hx)
    clear hq ho hx HC0
    unfold faultE at HF ⊢
    go_wp2_with fail
    first | exact HF.out | exact ⟨rfl, HF.out⟩
  have HX1 := Lib.hid hx
  have HD1 := Lib.hid (HD0.out.step ho hr)
  clear hq ho hr hx hok HC0 HX0 HD0
  -- step 1
  have HC1 := Lib.hid (want_word wOne (by decide) w1 r s i1 HD1.out.rd hi1 hs)
  unfold wOne at HC1
  go_wp2_with fail
  refine HC1.out.mono ?_
  intro e w2 hq
  obtain ⟨ho, ⟨p, rfl, hx⟩ | ⟨_, i2, rfl, hi2, hr, hok, hx⟩⟩ := readQ_cases hq HX1.out
  · have HF := Lib.hid (HFAULT.out p w2 (HD1.out.only.then ho) hx)
    clear hq ho hx HC1
    unfold faultE at HF ⊢
    go_wp2_with fail
    first | exact HF.out | exact ⟨rfl, HF.out⟩
  have HX2 := Lib.hid hx
  have HD2 := Lib.hid (HD1.out.step ho hr)
  clear hq ho hr hx hok HC1 HX1 HD1
  -- step 2
  have HC2 := Lib.hid (want_mark w2 r s i2 HD2.out.rd hi2 hs)
  unfold bSemi at HC2
  go_wp2_with fail
  refine HC2.out.mono ?_
  intro e w3 hq
  obtain ⟨ho, ⟨p, rfl, hx⟩ | ⟨_, i3, rfl, hi3, hr, hok, hx⟩⟩ := readQ_cases hq HX2.out
  · have HF := Lib.hid (HFAULT.out p w3 (HD2.out.only.then ho) hx)
    clear hq ho hx HC2
    unfold faultE at HF ⊢
    go_wp2_with fail
    first | exact HF.out | exact ⟨rfl, HF.out⟩
  have HX3 := Lib.hid hx
  have HD3 := Lib.hid (HD2.out.step ho hr)
  clear hq ho hr hx hok HC2 HX2 HD2
  -- step 3
  have HC3 := Lib.hid (want_word wSeq (by decide) w3 r s i3 HD3.out.rd hi3 hs)
  unfold wSeq at HC3
  go_wp2_with fail
  refine HC3.out.mono ?_
  intro e w4 hq
  obtain ⟨ho, ⟨p, rfl, hx⟩ | ⟨_, i4, rfl, hi4, hr, hok, hx⟩⟩ := readQ_cases hq HX3.out
  · have HF := Lib.hid (HFAULT.out p w4 (HD3.out.only.then ho) hx)
    clear hq ho hx HC3
    unfold faultE at HF ⊢
    go_wp2_with fail
    first | exact HF.out | exact ⟨rfl, HF.out⟩
  have HX4 := Lib.hid hx
  have HD4 := Lib.hid (HD3.out.step ho hr)
  clear hq ho hr hx hok HC3 HX3 HD3
  -- step 4
  have HC4 := Lib.hid (number_ok (1) (4611686018427387904) w4 r s i4 HD4.out.rd hi4 hs)
  go_wp2_with fail
  refine HC4.out.mono ?_
  intro e w5 hq
  obtain ⟨ho, ⟨p, rfl, hx⟩ | ⟨sq, i5, rfl, hi5, hr, hok, hx⟩⟩ := readQ_cases hq HX4.out
  · have HF := Lib.hid (HFAULT.out p w5 (HD4.out.only.then ho) hx)
    clear hq ho hx HC4
    unfold faultE at HF ⊢
    go_wp2_with fail
    first | exact HF.out | exact ⟨rfl, HF.out⟩
  have HX5 := Lib.hid hx
  have HD5 := Lib.hid (HD4.out.step ho hr)
  obtain ⟨sq_lo, sq_hi⟩ := inF_in hok
  have cM : w5.cell? ⟨M, 0, none⟩ = some (.int .u64 0) := HD5.out.blk.cell 0
  have fM : w5.frozen? ⟨M, 0, none⟩ = false := HD5.out.blk.free 0
  clear hq ho hr hx hok HC4 HX4 HD4
  go_upto_region 8 with (fail)
  obtain ⟨w6, e6⟩ : ∃ x, x = w5.setCell ⟨M, 0, none⟩ (.int .u64 (sq : Nat)) := ⟨_, rfl⟩
  rw [← e6]
  have HD6 : Hid (DumpAt w w6 r M R s i5 #[.int .u64 (sq : Nat), .int .i64 0, .int .i64 0, .int .i64 0, .int .u64 0, .int .u64 0, .int .u64 0, .int .u64 0, .int .u32 0, .int .i64 0, .slice none 0 0, .slice none 0 0] zDump) := Lib.hid (by rw [e6]; exact HD5.out.put 0 _)
  obtain ⟨i6, ei6⟩ : ∃ x, x = i5 := ⟨_, rfl⟩
  rw [← ei6] at HD6 HX5 hi5
  have hi6 := hi5
  have HX6 := HX5
  clear cM fM e6 HD5 hi5 HX5 ei6
  -- step 6
  have HC6 := Lib.hid (want_mark w6 r s i6 HD6.out.rd hi6 hs)
  unfold bSemi at HC6
  go_wp2_with fail
  refine HC6.out.mono ?_
  intro e w7 hq
  obtain ⟨ho, ⟨p, rfl, hx⟩ | ⟨_, i7, rfl, hi7, hr, hok, hx⟩⟩ := readQ_cases hq HX6.out
  · have HF := Lib.hid (HFAULT.out p w7 (HD6.out.only.then ho) hx)
    clear hq ho hx HC6
    unfold faultE at HF ⊢
    go_wp2_with fail
    first | exact HF.out | exact ⟨rfl, HF.out⟩
  have HX7 := Lib.hid hx
  have HD7 := Lib.hid (HD6.out.step ho hr)
  clear hq ho hr hx hok HC6 HX6 HD6
  -- step 7
  have HC7 := Lib.hid (want_word wDevice (by decide) w7 r s i7 HD7.out.rd hi7 hs)
  unfold wDevice at HC7
  go_wp2_with fail
  refine HC7.out.mono ?_
  intro e w8 hq
  obtain ⟨ho, ⟨p, rfl, hx⟩ | ⟨_, i8, rfl, hi8, hr, hok, hx⟩⟩ := readQ_cases hq HX7.out
  · have HF := Lib.hid (HFAULT.out p w8 (HD7.out.only.then ho) hx)
    clear hq ho hx HC7
    unfold faultE at HF ⊢
    go_wp2_with fail
    first | exact HF.out | exact ⟨rfl, HF.out⟩
  have HX8 := Lib.hid hx
  have HD8 := Lib.hid (HD7.out.step ho hr)
  clear hq ho hr hx hok HC7 HX7 HD7
  -- step 8
  have HC8 := Lib.hid (number_ok (1) (4096) w8 r s i8 HD8.out.rd hi8 hs)
  go_wp2_with fail
  refine HC8.out.mono ?_
  intro e w9 hq
  obtain ⟨ho, ⟨p, rfl, hx⟩ | ⟨bl, i9, rfl, hi9, hr, hok, hx⟩⟩ := readQ_cases hq HX8.out
  · have HF := Lib.hid (HFAULT.out p w9 (HD8.out.only.then ho) hx)
    clear hq ho hx HC8
    unfold faultE at HF ⊢
    go_wp2_with fail
    first | exact HF.out | exact ⟨rfl, HF.out⟩
  have HX9 := Lib.hid hx
  have HD9 := Lib.hid (HD8.out.step ho hr)
  obtain ⟨bl_lo, bl_hi⟩ := inF_in hok
  have cM : w9.cell? ⟨M, 1, none⟩ = some (.int .i64 0) := HD9.out.blk.cell 1
  have fM : w9.frozen? ⟨M, 1, none⟩ = false := HD9.out.blk.free 1
  clear hq ho hr hx hok HC8 HX8 HD8
  go_upto_region 11 with (fail)
  obtain ⟨w10, e10⟩ : ∃ x, x = w9.setCell ⟨M, 1, none⟩ (.int .i64 (bl : Nat)) := ⟨_, rfl⟩
  rw [← e10]
  have HD10 : Hid (DumpAt w w10 r M R s i9 #[.int .u64 (sq : Nat), .int .i64 (bl : Nat), .int .i64 0, .int .i64 0, .int .u64 0, .int .u64 0, .int .u64 0, .int .u64 0, .int .u32 0, .int .i64 0, .slice none 0 0, .slice none 0 0] zDump) := Lib.hid (by rw [e10]; exact HD9.out.put 1 _)
  obtain ⟨i10, ei10⟩ : ∃ x, x = i9 := ⟨_, rfl⟩
  rw [← ei10] at HD10 HX9 hi9
  have hi10 := hi9
  have HX10 := HX9
  clear cM fM e10 HD9 hi9 HX9 ei10
  -- step 10
  have HC10 := Lib.hid (size_ok w10 r s i10 HD10.out.rd hi10 hs)
  go_wp2_with fail
  refine HC10.out.mono ?_
  intro e w11 hq
  obtain ⟨ho, ⟨p, rfl, hx⟩ | ⟨sz, i11, rfl, hi11, hr, hok, hx⟩⟩ := readQ_cases hq HX10.out
  · have HF := Lib.hid (HFAULT.out p w11 (HD10.out.only.then ho) hx)
    clear hq ho hx HC10
    unfold faultE at HF ⊢
    go_wp2_with fail
    first | exact HF.out | exact ⟨rfl, HF.out⟩
  have HX11 := Lib.hid hx
  have HD11 := Lib.hid (HD10.out.step ho hr)
  have cM : w11.cell? ⟨M, 2, none⟩ = some (.int .i64 0) := HD11.out.blk.cell 2
  have fM : w11.frozen? ⟨M, 2, none⟩ = false := HD11.out.blk.free 2
  clear hq ho hr hx hok HC10 HX10 HD10
  go_upto_region 12 with (fail)
  obtain ⟨w12, e12⟩ : ∃ x, x = w11.setCell ⟨M, 2, none⟩ (.int .i64 (sz : Nat)) := ⟨_, rfl⟩
  rw [← e12]
  have HD12 : Hid (DumpAt w w12 r M R s i11 #[.int .u64 (sq : Nat), .int .i64 (bl : Nat), .int .i64 (sz : Nat), .int .i64 0, .int .u64 0, .int .u64 0, .int .u64 0, .int .u64 0, .int .u32 0, .int .i64 0, .slice none 0 0, .slice none 0 0] zDump) := Lib.hid (by rw [e12]; exact HD11.out.put 2 _)
  obtain ⟨i12, ei12⟩ : ∃ x, x = i11 := ⟨_, rfl⟩
  rw [← ei12] at HD12 HX11 hi11
  have hi12 := hi11
  have HX12 := HX11
  clear cM fM e12 HD11 hi11 HX11 ei12
  -- step 12
  have HC12 := Lib.hid (number_ok (1) (16) w12 r s i12 HD12.out.rd hi12 hs)
  go_wp2_with fail
  refine HC12.out.mono ?_
  intro e w13 hq
  obtain ⟨ho, ⟨p, rfl, hx⟩ | ⟨sl, i13, rfl, hi13, hr, hok, hx⟩⟩ := readQ_cases hq HX12.out
  · have HF := Lib.hid (HFAULT.out p w13 (HD12.out.only.then ho) hx)
    clear hq ho hx HC12
    unfold faultE at HF ⊢
    go_wp2_with fail
    first | exact HF.out | exact ⟨rfl, HF.out⟩
  have HX13 := Lib.hid hx
  have HD13 := Lib.hid (HD12.out.step ho hr)
  obtain ⟨sl_lo, sl_hi⟩ := inF_in hok
  have cM : w13.cell? ⟨M, 3, none⟩ = some (.int .i64 0) := HD13.out.blk.cell 3
  have fM : w13.frozen? ⟨M, 3, none⟩ = false := HD13.out.blk.free 3
  clear hq ho hr hx hok HC12 HX12 HD12
  go_upto_region 13 with (fail)
  obtain ⟨w14, e14⟩ : ∃ x, x = w13.setCell ⟨M, 3, none⟩ (.int .i64 (sl : Nat)) := ⟨_, rfl⟩
  rw [← e14]
  have HD14 : Hid (DumpAt w w14 r M R s i13 #[.int .u64 (sq : Nat), .int .i64 (bl : Nat), .int .i64 (sz : Nat), .int .i64 (sl : Nat), .int .u64 0, .int .u64 0, .int .u64 0, .int .u64 0, .int .u32 0, .int .i64 0, .slice none 0 0, .slice none 0 0] zDump) := Lib.hid (by rw [e14]; exact HD13.out.put 3 _)
  obtain ⟨i14, ei14⟩ : ∃ x, x = i13 := ⟨_, rfl⟩
  rw [← ei14] at HD14 HX13 hi13
  have hi14 := hi13
  have HX14 := HX13
  clear cM fM e14 HD13 hi13 HX13 ei14
  -- step 14
  have HC14 := Lib.hid (want_mark w14 r s i14 HD14.out.rd hi14 hs)
  unfold bSemi at HC14
  go_wp2_with fail
  refine HC14.out.mono ?_
  intro e w15 hq
  obtain ⟨ho, ⟨p, rfl, hx⟩ | ⟨_, i15, rfl, hi15, hr, hok, hx⟩⟩ := readQ_cases hq HX14.out
  · have HF := Lib.hid (HFAULT.out p w15 (HD14.out.only.then ho) hx)
    clear hq ho hx HC14
    unfold faultE at HF ⊢
    go_wp2_with fail
    first | exact HF.out | exact ⟨rfl, HF.out⟩
  have HX15 := Lib.hid hx
  have HD15 := Lib.hid (HD14.out.step ho hr)
  clear hq ho hr hx hok HC14 HX14 HD14
  -- step 15
  have HC15 := Lib.hid (want_word wGens (by decide) w15 r s i15 HD15.out.rd hi15 hs)
  unfold wGens at HC15
  go_wp2_with fail
  refine HC15.out.mono ?_
  intro e w16 hq
  obtain ⟨ho, ⟨p, rfl, hx⟩ | ⟨_, i16, rfl, hi16, hr, hok, hx⟩⟩ := readQ_cases hq HX15.out
  · have HF := Lib.hid (HFAULT.out p w16 (HD15.out.only.then ho) hx)
    clear hq ho hx HC15
    unfold faultE at HF ⊢
    go_wp2_with fail
    first | exact HF.out | exact ⟨rfl, HF.out⟩
  have HX16 := Lib.hid hx
  have HD16 := Lib.hid (HD15.out.step ho hr)
  clear hq ho hr hx hok HC15 HX15 HD15
  -- step 16
  have HC16 := Lib.hid (identifier_ok w16 r s i16 HD16.out.rd hi16 hs)
  go_wp2_with fail
  refine HC16.out.mono ?_
  intro e w17 hq
  obtain ⟨ho, ⟨p, rfl, hx⟩ | ⟨g0, i17, rfl, hi17, hr, hok, hx⟩⟩ := readQ_cases hq HX16.out
  · have HF := Lib.hid (HFAULT.out p w17 (HD16.out.only.then ho) hx)
    clear hq ho hx HC16
    unfold faultE at HF ⊢
    go_wp2_with fail
    first | exact HF.out | exact ⟨rfl, HF.out⟩
  have HX17 := Lib.hid hx
  have HD17 := Lib.hid (HD16.out.step ho hr)
  have cM : w17.cell? ⟨M, 4, none⟩ = some (.int .u64 0) := HD17.out.blk.cell 4
  have fM : w17.frozen? ⟨M, 4, none⟩ = false := HD17.out.blk.free 4
  clear hq ho hr hx hok HC16 HX16 HD16
  go_upto_region 16 with (fail)
  obtain ⟨w18, e18⟩ : ∃ x, x = w17.setCell ⟨M, 4, none⟩ (.int .u64 (g0 : Nat)) := ⟨_, rfl⟩
  rw [← e18]
  have HD18 : Hid (DumpAt w w18 r M R s i17 #[.int .u64 (sq : Nat), .int .i64 (bl : Nat), .int .i64 (sz : Nat), .int .i64 (sl : Nat), .int .u64 (g0 : Nat), .int .u64 0, .int .u64 0, .int .u64 0, .int .u32 0, .int .i64 0, .slice none 0 0, .slice none 0 0] zDump) := Lib.hid (by rw [e18]; exact HD17.out.put 4 _)
  obtain ⟨i18, ei18⟩ : ∃ x, x = i17 := ⟨_, rfl⟩
  rw [← ei18] at HD18 HX17 hi17
  have hi18 := hi17
  have HX18 := HX17
  clear cM fM e18 HD17 hi17 HX17 ei18
  -- step 18
  have HC18 := Lib.hid (identifier_ok w18 r s i18 HD18.out.rd hi18 hs)
  go_wp2_with fail
  refine HC18.out.mono ?_
  intro e w19 hq
  obtain ⟨ho, ⟨p, rfl, hx⟩ | ⟨g1, i19, rfl, hi19, hr, hok, hx⟩⟩ := readQ_cases hq HX18.out
  · have HF := Lib.hid (HFAULT.out p w19 (HD18.out.only.then ho) hx)
    clear hq ho hx HC18
    unfold faultE at HF ⊢
    go_wp2_with fail
    first | exact HF.out | exact ⟨rfl, HF.out⟩
  have HX19 := Lib.hid hx
  have HD19 := Lib.hid (HD18.out.step ho hr)
  have cM : w19.cell? ⟨M, 5, none⟩ = some (.int .u64 0) := HD19.out.blk.cell 5
  have fM : w19.frozen? ⟨M, 5, none⟩ = false := HD19.out.blk.free 5
  clear hq ho hr hx hok HC18 HX18 HD18
  go_upto_region 17 with (fail)
  obtain ⟨w20, e20⟩ : ∃ x, x = w19.setCell ⟨M, 5, none⟩ (.int .u64 (g1 : Nat)) := ⟨_, rfl⟩
  rw [← e20]
  have HD20 : Hid (DumpAt w w20 r M R s i19 #[.int .u64 (sq : Nat), .int .i64 (bl : Nat), .int .i64 (sz : Nat), .int .i64 (sl : Nat), .int .u64 (g0 : Nat), .int .u64 (g1 : Nat), .int .u64 0, .int .u64 0, .int .u32 0, .int .i64 0, .slice none 0 0, .slice none 0 0] zDump) := Lib.hid (by rw [e20]; exact HD19.out.put 5 _)
  obtain ⟨i20, ei20⟩ : ∃ x, x = i19 := ⟨_, rfl⟩
  rw [← ei20] at HD20 HX19 hi19
  have hi20 := hi19
  have HX20 := HX19
  clear cM fM e20 HD19 hi19 HX19 ei20
  -- step 20
  have HC20 := Lib.hid (identifier_ok w20 r s i20 HD20.out.rd hi20 hs)
  go_wp2_with fail
  refine HC20.out.mono ?_
  intro e w21 hq
  obtain ⟨ho, ⟨p, rfl, hx⟩ | ⟨g2, i21, rfl, hi21, hr, hok, hx⟩⟩ := readQ_cases hq HX20.out
  · have HF := Lib.hid (HFAULT.out p w21 (HD20.out.only.then ho) hx)
    clear hq ho hx HC20
    unfold faultE at HF ⊢
    go_wp2_with fail
    first | exact HF.out | exact ⟨rfl, HF.out⟩
  have HX21 := Lib.hid hx
  have HD21 := Lib.hid (HD20.out.step ho hr)
  have cM : w21.cell? ⟨M, 6, none⟩ = some (.int .u64 0) := HD21.out.blk.cell 6
  have fM : w21.frozen? ⟨M, 6, none⟩ = false := HD21.out.blk.free 6
  clear hq ho hr hx hok HC20 HX20 HD20
  go_upto_region 18 with (fail)
  obtain ⟨w22, e22⟩ : ∃ x, x = w21.setCell ⟨M, 6, none⟩ (.int .u64 (g2 : Nat)) := ⟨_, rfl⟩
  rw [← e22]
  have HD22 : Hid (DumpAt w w22 r M R s i21 #[.int .u64 (sq : Nat), .int .i64 (bl : Nat), .int .i64 (sz : Nat), .int .i64 (sl : Nat), .int .u64 (g0 : Nat), .int .u64 (g1 : Nat), .int .u64 (g2 : Nat), .int .u64 0, .int .u32 0, .int .i64 0, .slice none 0 0, .slice none 0 0] zDump) := Lib.hid (by rw [e22]; exact HD21.out.put 6 _)
  obtain ⟨i22, ei22⟩ : ∃ x, x = i21 := ⟨_, rfl⟩
  rw [← ei22] at HD22 HX21 hi21
  have hi22 := hi21
  have HX22 := HX21
  clear cM fM e22 HD21 hi21 HX21 ei22
  -- step 22
  have HC22 := Lib.hid (identifier_ok w22 r s i22 HD22.out.rd hi22 hs)
  go_wp2_with fail
  refine HC22.out.mono ?_
  intro e w23 hq
  obtain ⟨ho, ⟨p, rfl, hx⟩ | ⟨g3, i23, rfl, hi23, hr, hok, hx⟩⟩ := readQ_cases hq HX22.out
  · have HF := Lib.hid (HFAULT.out p w23 (HD22.out.only.then ho) hx)
    clear hq ho hx HC22
    unfold faultE at HF ⊢
    go_wp2_with fail
    first | exact HF.out | exact ⟨rfl, HF.out⟩
  have HX23 := Lib.hid hx
  have HD23 := Lib.hid (HD22.out.step ho hr)
  have cM : w23.cell? ⟨M, 7, none⟩ = some (.int .u64 0) := HD23.out.blk.cell 7
  have fM : w23.frozen? ⟨M, 7, none⟩ = false := HD23.out.blk.free 7
  clear hq ho hr hx hok HC22 HX22 HD22
  go_upto_region 19 with (fail)
  obtain ⟨w24, e24⟩ : ∃ x, x = w23.setCell ⟨M, 7, none⟩ (.int .u64 (g3 : Nat)) := ⟨_, rfl⟩
  rw [← e24]
  have HD24 : Hid (DumpAt w w24 r M R s i23 #[.int .u64 (sq : Nat), .int .i64 (bl : Nat), .int .i64 (sz : Nat), .int .i64 (sl : Nat), .int .u64 (g0 : Nat), .int .u64 (g1 : Nat), .int .u64 (g2 : Nat), .int .u64 (g3 : Nat), .int .u32 0, .int .i64 0, .slice none 0 0, .slice none 0 0] zDump) := Lib.hid (by rw [e24]; exact HD23.out.put 7 _)
  obtain ⟨i24, ei24⟩ : ∃ x, x = i23 := ⟨_, rfl⟩
  rw [← ei24] at HD24 HX23 hi23
  have hi24 := hi23
  have HX24 := HX23
  clear cM fM e24 HD23 hi23 HX23 ei24
  -- step 24
  have HC24 := Lib.hid (want_mark w24 r s i24 HD24.out.rd hi24 hs)
  unfold bSemi at HC24
  go_wp2_with fail
  refine HC24.out.mono ?_
  intro e w25 hq
  obtain ⟨ho, ⟨p, rfl, hx⟩ | ⟨_, i25, rfl, hi25, hr, hok, hx⟩⟩ := readQ_cases hq HX24.out
  · have HF := Lib.hid (HFAULT.out p w25 (HD24.out.only.then ho) hx)
    clear hq ho hx HC24
    unfold faultE at HF ⊢
    go_wp2_with fail
    first | exact HF.out | exact ⟨rfl, HF.out⟩
  have HX25 := Lib.hid hx
  have HD25 := Lib.hid (HD24.out.step ho hr)
  clear hq ho hr hx hok HC24 HX24 HD24
  -- step 25
  have HC25 := Lib.hid (want_word wFlags (by decide) w25 r s i25 HD25.out.rd hi25 hs)
  unfold wFlags at HC25
  go_wp2_with fail
  refine HC25.out.mono ?_
  intro e w26 hq
  obtain ⟨ho, ⟨p, rfl, hx⟩ | ⟨_, i26, rfl, hi26, hr, hok, hx⟩⟩ := readQ_cases hq HX25.out
  · have HF := Lib.hid (HFAULT.out p w26 (HD25.out.only.then ho) hx)
    clear hq ho hx HC25
    unfold faultE at HF ⊢
    go_wp2_with fail
    first | exact HF.out | exact ⟨rfl, HF.out⟩
  have HX26 := Lib.hid hx
  have HD26 := Lib.hid (HD25.out.step ho hr)
  clear hq ho hr hx hok HC25 HX25 HD25
  -- step 26
  have HC26 := Lib.hid (flags_ok w26 r s i26 HD26.out.rd hi26 hs HD26.out.tab)
  go_wp2_with fail
  refine HC26.out.mono ?_
  intro e w27 hq
  obtain ⟨ho, ⟨p, rfl, hx⟩ | ⟨fl, i27, rfl, hi27, hr, hok, hx⟩⟩ := readQ_cases hq HX26.out
  · have HF := Lib.hid (HFAULT.out p w27 (HD26.out.only.then ho) hx)
    clear hq ho hx HC26
    unfold faultE at HF ⊢
    go_wp2_with fail
    first | exact HF.out | exact ⟨rfl, HF.out⟩
  have HX27 := Lib.hid hx
  have HD27 := Lib.hid (HD26.out.step ho hr)
  have cM : w27.cell? ⟨M, 8, none⟩ = some (.int .u32 0) := HD27.out.blk.cell 8
  have fM : w27.frozen? ⟨M, 8, none⟩ = false := HD27.out.blk.free 8
  clear hq ho hr hx hok HC26 HX26 HD26
  go_upto_region 22 with (fail)
  obtain ⟨w28, e28⟩ : ∃ x, x = w27.setCell ⟨M, 8, none⟩ (.int .u32 (fl : Nat)) := ⟨_, rfl⟩
  rw [← e28]
  have HD28 : Hid (DumpAt w w28 r M R s i27 #[.int .u64 (sq : Nat), .int .i64 (bl : Nat), .int .i64 (sz : Nat), .int .i64 (sl : Nat), .int .u64 (g0 : Nat), .int .u64 (g1 : Nat), .int .u64 (g2 : Nat), .int .u64 (g3 : Nat), .int .u32 (fl : Nat), .int .i64 0, .slice none 0 0, .slice none 0 0] zDump) := Lib.hid (by rw [e28]; exact HD27.out.put 8 _)
  obtain ⟨i28, ei28⟩ : ∃ x, x = i27 := ⟨_, rfl⟩
  rw [← ei28] at HD28 HX27 hi27
  have hi28 := hi27
  have HX28 := HX27
  clear cM fM e28 HD27 hi27 HX27 ei28
  -- step 28
  have HC28 := Lib.hid (want_word wMark (by decide) w28 r s i28 HD28.out.rd hi28 hs)
  unfold wMark at HC28
  go_wp2_with fail
  refine HC28.out.mono ?_
  intro e w29 hq
  obtain ⟨ho, ⟨p, rfl, hx⟩ | ⟨_, i29, rfl, hi29, hr, hok, hx⟩⟩ := readQ_cases hq HX28.out
  · have HF := Lib.hid (HFAULT.out p w29 (HD28.out.only.then ho) hx)
    clear hq ho hx HC28
    unfold faultE at HF ⊢
    go_wp2_with fail
    first | exact HF.out | exact ⟨rfl, HF.out⟩
  have HX29 := Lib.hid hx
  have HD29 := Lib.hid (HD28.out.step ho hr)
  clear hq ho hr hx hok HC28 HX28 HD28
  -- step 29
  have cb : w29.cell? ⟨M, 1, none⟩ = some (.int .i64 (bl : Nat)) := HD29.out.blk.cell 1
  have HC29 := Lib.hid (number_ok 0 bl w29 r s i29 HD29.out.rd hi29 hs)
  go_wp2_with fail
  refine HC29.out.mono ?_
  intro e w30 hq
  obtain ⟨ho, ⟨p, rfl, hx⟩ | ⟨mr, i30, rfl, hi30, hr, hok, hx⟩⟩ := readQ_cases hq HX29.out
  · have HF := Lib.hid (HFAULT.out p w30 (HD29.out.only.then ho) hx)
    clear hq ho hx HC29
    unfold faultE at HF ⊢
    go_wp2_with fail
    first | exact HF.out | exact ⟨rfl, HF.out⟩
  have HX30 := Lib.hid hx
  have HD30 := Lib.hid (HD29.out.step ho hr)
  obtain ⟨mr_lo, mr_hi⟩ := inF_in hok
  have cM : w30.cell? ⟨M, 9, none⟩ = some (.int .i64 0) := HD30.out.blk.cell 9
  have fM : w30.frozen? ⟨M, 9, none⟩ = false := HD30.out.blk.free 9
  clear hq ho hr hx hok HC29 HX29 HD29
  go_upto_region 24 with (fail)
  obtain ⟨w31, e31⟩ : ∃ x, x = w30.setCell ⟨M, 9, none⟩ (.int .i64 (mr : Nat)) := ⟨_, rfl⟩
  rw [← e31]
  have HD31 : Hid (DumpAt w w31 r M R s i30 #[.int .u64 (sq : Nat), .int .i64 (bl : Nat), .int .i64 (sz : Nat), .int .i64 (sl : Nat), .int .u64 (g0 : Nat), .int .u64 (g1 : Nat), .int .u64 (g2 : Nat), .int .u64 (g3 : Nat), .int .u32 (fl : Nat), .int .i64 (mr : Nat), .slice none 0 0, .slice none 0 0] zDump) := Lib.hid (by rw [e31]; exact HD30.out.put 9 _)
  obtain ⟨i31, ei31⟩ : ∃ x, x = i30 := ⟨_, rfl⟩
  rw [← ei31] at HD31 HX30 hi30
  have hi31 := hi30
  have HX31 := HX30
  clear cM fM e31 HD30 hi30 HX30 ei31
  clear cb
  -- step 31
  have HC31 := Lib.hid (want_mark w31 r s i31 HD31.out.rd hi31 hs)
  unfold bSemi at HC31
  go_wp2_with fail
  refine HC31.out.mono ?_
  intro e w32 hq
  obtain ⟨ho, ⟨p, rfl, hx⟩ | ⟨_, i32, rfl, hi32, hr, hok, hx⟩⟩ := readQ_cases hq HX31.out
  · have HF := Lib.hid (HFAULT.out p w32 (HD31.out.only.then ho) hx)
    clear hq ho hx HC31
    unfold faultE at HF ⊢
    go_wp2_with fail
    first | exact HF.out | exact ⟨rfl, HF.out⟩
  have HX32 := Lib.hid hx
  have HD32 := Lib.hid (HD31.out.step ho hr)
  clear hq ho hr hx hok HC31 HX31 HD31
  -- step 32
  have HC32 := Lib.hid (want_word wSlots (by decide) w32 r s i32 HD32.out.rd hi32 hs)
  unfold wSlots at HC32
  go_wp2_with fail
  refine HC32.out.mono ?_
  intro e w33 hq
  obtain ⟨ho, ⟨p, rfl, hx⟩ | ⟨_, i33, rfl, hi33, hr, hok, hx⟩⟩ := readQ_cases hq HX32.out
  · have HF := Lib.hid (HFAULT.out p w33 (HD32.out.only.then ho) hx)
    clear hq ho hx HC32
    unfold faultE at HF ⊢
    go_wp2_with fail
    first | exact HF.out | exact ⟨rfl, HF.out⟩
  have HX33 := Lib.hid hx
  have HD33 := Lib.hid (HD32.out.step ho hr)
  clear hq ho hr hx hok HC32 HX32 HD32
  have cb : w33.cell? ⟨M, 1, none⟩ = some (.int .i64 (bl : Nat)) := HD33.out.blk.cell 1
  have cs3 : w33.cell? ⟨M, 3, none⟩ = some (.int .i64 (sl : Nat)) := HD33.out.blk.cell 3
  go_wp2_with fail
  refine wp_region_still_tail 10 (by kernel_rfl) (by kernel_rfl) ?_
  simp only [List.take_succ_cons, List.take_zero, List.drop_succ_cons, List.drop_zero]
  repeat still_step
  still_call (extents_ok bl _ (by omega))
  refine wpStill_nil ?_
  change wpList _ _ _ _ _ w33.drew
  obtain ⟨w34, e34⟩ : ∃ x, x = w33.drew := ⟨_, rfl⟩
  rw [← e34]
  have HD34 : Hid (DumpAt w w34 r M R s i33 #[.int .u64 (sq : Nat), .int .i64 (bl : Nat), .int .i64 (sz : Nat), .int .i64 (sl : Nat), .int .u64 (g0 : Nat), .int .u64 (g1 : Nat), .int .u64 (g2 : Nat), .int .u64 (g3 : Nat), .int .u32 (fl : Nat), .int .i64 (mr : Nat), .slice none 0 0, .slice none 0 0] zDump) := Lib.hid (by rw [e34]; exact HD33.out.drew)
  have HX34 := HX33
  obtain ⟨i34, ei⟩ : ∃ x, x = i33 := ⟨_, rfl⟩
  rw [← ei] at HD34 HX34 hi33
  have hi34 := hi33
  clear cb cs3 e34 ei HD33 HX33 hi33
  -- step 34
  have HC34 := Lib.hid (slots_ok sl (exts bl) (by omega) (by unfold exts; omega) w34 r s i34 HD34.out.rd hi34 hs)
  go_wp2_with fail
  refine HC34.out.mono ?_
  intro e w35 hq
  obtain ⟨ho, ⟨p, rfl, hx⟩ | ⟨vs, i35, As, cs, rfl, hrow, hi35, hr, hx⟩⟩ := slotsQ_cases hq HX34.out
  · have HF := Lib.hid (HFAULT.out p w35 (HD34.out.only.then ho) hx)
    clear hq ho hx HC34
    unfold faultE at HF ⊢
    go_wp2_with fail
    first | exact HF.out | exact ⟨rfl, HF.out⟩
  have HX35 := Lib.hid hx
  have HD35 := Lib.hid (HD34.out.step ho hr)
  have HROWS := Lib.hid hrow
  have HSZ := Lib.hid (show w.heap.size ≤ w34.heap.size from HD34.out.only.size)
  have HLT := Lib.hid (And.intro (Blk.lt HD34.out.rd) (And.intro HD34.out.blk.lt HD34.out.res.lt))
  have cM : w35.cell? ⟨M, 11, none⟩ = some (.slice none 0 0) := HD35.out.blk.cell 11
  have fM : w35.frozen? ⟨M, 11, none⟩ = false := HD35.out.blk.free 11
  clear hq ho hr hx hrow HC34 HX34 HD34
  go_upto_region 27 with (fail)
  obtain ⟨w36, e36⟩ : ∃ x, x = w35.setCell ⟨M, 11, none⟩ (.slice As vs.length cs) := ⟨_, rfl⟩
  rw [← e36]
  have HD36 : Hid (DumpAt w w36 r M R s i35 #[.int .u64 (sq : Nat), .int .i64 (bl : Nat), .int .i64 (sz : Nat), .int .i64 (sl : Nat), .int .u64 (g0 : Nat), .int .u64 (g1 : Nat), .int .u64 (g2 : Nat), .int .u64 (g3 : Nat), .int .u32 (fl : Nat), .int .i64 (mr : Nat), .slice none 0 0, .slice As vs.length cs] zDump) := Lib.hid (by rw [e36]; exact HD35.out.put 11 _)
  obtain ⟨i36, ei36⟩ : ∃ x, x = i35 := ⟨_, rfl⟩
  rw [← ei36] at HD36 HX35 hi35
  have hi36 := hi35
  have HX36 := HX35
  have E36 := Lib.hid e36
  clear cM fM e36 HD35 hi35 HX35 ei36
  have HW36 : Hid (OnlyP (fun b => b = r ∨ b = M ∨ b = R) w35 w36) := Lib.hid (by rw [E36.out]; exact (OnlyP.refl _ _).set (p := ⟨M, 11, none⟩) (.inl (.inr (.inl rfl))) _)
  -- step 36
  have HC36 := Lib.hid (want_mark w36 r s i36 HD36.out.rd hi36 hs)
  unfold bSemi at HC36
  go_wp2_with fail
  refine HC36.out.mono ?_
  intro e w37 hq
  obtain ⟨ho, ⟨p, rfl, hx⟩ | ⟨_, i37, rfl, hi37, hr, hok, hx⟩⟩ := readQ_cases hq HX36.out
  · have HF := Lib.hid (HFAULT.out p w37 (HD36.out.only.then ho) hx)
    clear hq ho hx HC36
    unfold faultE at HF ⊢
    go_wp2_with fail
    first | exact HF.out | exact ⟨rfl, HF.out⟩
  have HX37 := Lib.hid hx
  have HD37 := Lib.hid (HD36.out.step ho hr)
  have HW37 := Lib.hid (HW36.out.then (ho.mono (O1 := fun b => b = r ∨ b = M ∨ b = R) (fun b hb => .inl hb)))
  clear HW36
  clear hq ho hr hx hok HC36 HX36 HD36
  -- step 37
  have HC37 := Lib.hid (want_word wBits (by decide) w37 r s i37 HD37.out.rd hi37 hs)
  unfold wBits at HC37
  go_wp2_with fail
  refine HC37.out.mono ?_
  intro e w38 hq
  obtain ⟨ho, ⟨p, rfl, hx⟩ | ⟨_, i38, rfl, hi38, hr, hok, hx⟩⟩ := readQ_cases hq HX37.out
  · have HF := Lib.hid (HFAULT.out p w38 (HD37.out.only.then ho) hx)
    clear hq ho hx HC37
    unfold faultE at HF ⊢
    go_wp2_with fail
    first | exact HF.out | exact ⟨rfl, HF.out⟩
  have HX38 := Lib.hid hx
  have HD38 := Lib.hid (HD37.out.step ho hr)
  have HW38 := Lib.hid (HW37.out.then (ho.mono (O1 := fun b => b = r ∨ b = M ∨ b = R) (fun b hb => .inl hb)))
  clear HW37
  clear hq ho hr hx hok HC37 HX37 HD37
  have cb : w38.cell? ⟨M, 1, none⟩ = some (.int .i64 (bl : Nat)) := HD38.out.blk.cell 1
  -- step 38
  have HC38 := Lib.hid (bits_ok bl (by omega) (by omega) w38 r s i38 HD38.out.rd hi38 hs)
  go_wp2_with fail
  refine HC38.out.mono ?_
  intro e w39 hq
  obtain ⟨ho, ⟨p, rfl, hx⟩ | ⟨f, i39, B, rfl, hB, hrow, hi39, hr, hx⟩⟩ := bitsQ_cases hq HX38.out
  · have HF := Lib.hid (HFAULT.out p w39 (HD38.out.only.then ho) hx)
    clear hq ho hx HC38
    unfold faultE at HF ⊢
    go_wp2_with fail
    first | exact HF.out | exact ⟨rfl, HF.out⟩
  have HX39 := Lib.hid hx
  have HD39 := Lib.hid (HD38.out.step ho hr)
  have HW39 := Lib.hid (HW38.out.then (ho.mono (O1 := fun b => b = r ∨ b = M ∨ b = R) (fun b hb => .inl hb)))
  clear HW38
  have HROWB := Lib.hid hrow
  have HSB := Lib.hid (show w.heap.size ≤ B from Nat.le_trans HD38.out.only.size hB)
  have HMB := Lib.hid (show B ≠ M from by have := HD38.out.blk.lt; omega)
  have HRB := Lib.hid (show B ≠ R from by have := HD38.out.res.lt; omega)
  have HrB := Lib.hid (show B ≠ r from by have := Blk.lt HD38.out.rd; omega)
  clear cb hB
  have cM : w39.cell? ⟨M, 10, none⟩ = some (.slice none 0 0) := HD39.out.blk.cell 10
  have fM : w39.frozen? ⟨M, 10, none⟩ = false := HD39.out.blk.free 10
  clear hq ho hr hx hrow HC38 HX38 HD38
  go_upto_region 30 with (fail)
  obtain ⟨w40, e40⟩ : ∃ x, x = w39.setCell ⟨M, 10, none⟩ (.slice (some ⟨B, 0, none⟩) ((bl + 63) / 64) ((bl + 63) / 64)) := ⟨_, rfl⟩
  rw [← e40]
  have HW40 := Lib.hid (show OnlyP (fun b => b = r ∨ b = M ∨ b = R) _ w40 by rw [e40]; exact HW39.out.set (p := ⟨M, 10, none⟩) (.inl (.inr (.inl rfl))) _)
  clear HW39
  have HD40 : Hid (DumpAt w w40 r M R s i39 #[.int .u64 (sq : Nat), .int .i64 (bl : Nat), .int .i64 (sz : Nat), .int .i64 (sl : Nat), .int .u64 (g0 : Nat), .int .u64 (g1 : Nat), .int .u64 (g2 : Nat), .int .u64 (g3 : Nat), .int .u32 (fl : Nat), .int .i64 (mr : Nat), .slice (some ⟨B, 0, none⟩) ((bl + 63) / 64) ((bl + 63) / 64), .slice As vs.length cs] zDump) := Lib.hid (by rw [e40]; exact HD39.out.put 10 _)
  obtain ⟨i40, ei40⟩ : ∃ x, x = i39 := ⟨_, rfl⟩
  rw [← ei40] at HD40 HX39 hi39
  have hi40 := hi39
  have HX40 := HX39
  have E40 := Lib.hid e40
  clear cM fM e40 HD39 hi39 HX39 ei40
  have HC := Lib.hid (blanks_ok w40 r s i40 HD40.out.rd hi40 hs)
  go_wp2_with fail
  refine HC.out.mono ?_
  rintro e w41 ⟨rfl, hr, ho⟩
  have HD41 := Lib.hid (HD40.out.step ho hr)
  have HW41 := Lib.hid (HW40.out.then (ho.mono (O1 := fun b => b = r ∨ b = M ∨ b = R) (fun b hb => .inl hb)))
  have hrowb := HROWB.out.far (p := ⟨M, 10, none⟩) HMB.out (.slice (some ⟨B, 0, none⟩) ((bl + 63) / 64) ((bl + 63) / 64))
  rw [← E40.out] at hrowb
  have HROWF := Lib.hid (hrowb.only ho HrB.out)
  clear hrowb
  have hXe := HX40.out
  rw [pEnd_toks _ s i40 hi40] at hXe
  have hj2 := skip_le s false i40 hi40
  obtain ⟨j, ej⟩ : ∃ j, j = skip s false i40 := ⟨_, rfl⟩
  rw [← ej] at hXe HD41 hj2
  have HXE := Lib.hid hXe
  have c0 : w41.cell? ⟨r, 0, none⟩ = some (.string s) := Blk.cell HD41.out.rd 0
  have c1 : w41.cell? ⟨r, 1, none⟩ = some (.int .i64 (j : Nat)) := Blk.cell HD41.out.rd 1
  clear hr ho hXe ej HC HX40 HD40 HW40
  by_cases hj : j < s.size
  · have HF : Hid (∀ m, Q (faultE j) (w41.drewN m)) := Lib.hid (fun m => HFAULT.out j _ (HD41.out.only.drewN m) (by rw [HXE.out, if_pos hj]))
    have d1 : decide (j < s.size) = true := decide_eq_true hj
    clear hj
    unfold faultE at HF
    go_wp2_with fail
    go_quiet (fail)
    go_wp2_with fail
    first | exact HF.out _ | exact ⟨rfl, HF.out _⟩
  · have d1 : decide (j < s.size) = false := decide_eq_false hj
    have hok := HXE.out
    rw [if_neg hj] at hok
    have HOK := Lib.hid hok
    have HF : Hid (∀ m, Q (.returned (.agg #[.int .u64 (sq : Nat), .int .i64 (bl : Nat), .int .i64 (sz : Nat), .int .i64 (sl : Nat), .int .u64 (g0 : Nat), .int .u64 (g1 : Nat), .int .u64 (g2 : Nat), .int .u64 (g3 : Nat), .int .u32 (fl : Nat), .int .i64 (mr : Nat), .slice (some ⟨B, 0, none⟩) ((bl + 63) / 64) ((bl + 63) / 64), .slice As vs.length cs])) (sets (w41.drewN m) R 0 [.int .u64 (sq : Nat), .int .i64 (bl : Nat), .int .i64 (sz : Nat), .int .i64 (sl : Nat), .int .u64 (g0 : Nat), .int .u64 (g1 : Nat), .int .u64 (g2 : Nat), .int .u64 (g3 : Nat), .int .u32 (fl : Nat), .int .i64 (mr : Nat), .slice (some ⟨B, 0, none⟩) ((bl + 63) / 64) ((bl + 63) / 64), .slice As vs.length cs])) := Lib.hid (fun m => by
      rw [EQ.out]
      refine ⟨OnlyP.sets (.inr HD41.out.hR) _ _ _ (HD41.out.only.drewN m), ?_⟩
      rw [HOK.out]
      refine ⟨_, _, rfl, ⟨B, rfl, HSB.out, RowA.sets HRB.out _ _ _ (HROWF.out.drewN m)⟩, ?_⟩
      refine own_lower (own_only HROWS.out (OnlyP.sets (O := fun b => b = r ∨ b = M ∨ b = R) (.inl (.inr (.inr rfl))) _ _ _ (HW41.out.drewN m)) ?_) HSZ.out
      rintro b (rfl | rfl | rfl)
      · exact HLT.out.1
      · exact HLT.out.2.1
      · exact HLT.out.2.2)
    clear hj hok HXE
    have m0 : w41.cell? ⟨M, 0, none⟩ = some (.int .u64 (sq : Nat)) := HD41.out.blk.cell 0
    have m1 : w41.cell? ⟨M, 1, none⟩ = some (.int .i64 (bl : Nat)) := HD41.out.blk.cell 1
    have m2 : w41.cell? ⟨M, 2, none⟩ = some (.int .i64 (sz : Nat)) := HD41.out.blk.cell 2
    have m3 : w41.cell? ⟨M, 3, none⟩ = some (.int .i64 (sl : Nat)) := HD41.out.blk.cell 3
    have m4 : w41.cell? ⟨M, 4, none⟩ = some (.int .u64 (g0 : Nat)) := HD41.out.blk.cell 4
    have m5 : w41.cell? ⟨M, 5, none⟩ = some (.int .u64 (g1 : Nat)) := HD41.out.blk.cell 5
    have m6 : w41.cell? ⟨M, 6, none⟩ = some (.int .u64 (g2 : Nat)) := HD41.out.blk.cell 6
    have m7 : w41.cell? ⟨M, 7, none⟩ = some (.int .u64 (g3 : Nat)) := HD41.out.blk.cell 7
    have m8 : w41.cell? ⟨M, 8, none⟩ = some (.int .u32 (fl : Nat)) := HD41.out.blk.cell 8
    have m9 : w41.cell? ⟨M, 9, none⟩ = some (.int .i64 (mr : Nat)) := HD41.out.blk.cell 9
    have m10 : w41.cell? ⟨M, 10, none⟩ = some (.slice (some ⟨B, 0, none⟩) ((bl + 63) / 64) ((bl + 63) / 64)) := HD41.out.blk.cell 10
    have m11 : w41.cell? ⟨M, 11, none⟩ = some (.slice As vs.length cs) := HD41.out.blk.cell 11
    have z0 : w41.cell? ⟨R, 0, none⟩ = some (.int .u64 0) := HD41.out.res.cell 0
    have fz0 : w41.frozen? ⟨R, 0, none⟩ = false := HD41.out.res.free 0
    have z1 : w41.cell? ⟨R, 1, none⟩ = some (.int .i64 0) := HD41.out.res.cell 1
    have fz1 : w41.frozen? ⟨R, 1, none⟩ = false := HD41.out.res.free 1
    have z2 : w41.cell? ⟨R, 2, none⟩ = some (.int .i64 0) := HD41.out.res.cell 2
    have fz2 : w41.frozen? ⟨R, 2, none⟩ = false := HD41.out.res.free 2
    have z3 : w41.cell? ⟨R, 3, none⟩ = some (.int .i64 0) := HD41.out.res.cell 3
    have fz3 : w41.frozen? ⟨R, 3, none⟩ = false := HD41.out.res.free 3
    have z4 : w41.cell? ⟨R, 4, none⟩ = some (.int .u64 0) := HD41.out.res.cell 4
    have fz4 : w41.frozen? ⟨R, 4, none⟩ = false := HD41.out.res.free 4
    have z5 : w41.cell? ⟨R, 5, none⟩ = some (.int .u64 0) := HD41.out.res.cell 5
    have fz5 : w41.frozen? ⟨R, 5, none⟩ = false := HD41.out.res.free 5
    have z6 : w41.cell? ⟨R, 6, none⟩ = some (.int .u64 0) := HD41.out.res.cell 6
    have fz6 : w41.frozen? ⟨R, 6, none⟩ = false := HD41.out.res.free 6
    have z7 : w41.cell? ⟨R, 7, none⟩ = some (.int .u64 0) := HD41.out.res.cell 7
    have fz7 : w41.frozen? ⟨R, 7, none⟩ = false := HD41.out.res.free 7
    have z8 : w41.cell? ⟨R, 8, none⟩ = some (.int .u32 0) := HD41.out.res.cell 8
    have fz8 : w41.frozen? ⟨R, 8, none⟩ = false := HD41.out.res.free 8
    have z9 : w41.cell? ⟨R, 9, none⟩ = some (.int .i64 0) := HD41.out.res.cell 9
    have fz9 : w41.frozen? ⟨R, 9, none⟩ = false := HD41.out.res.free 9
    have z10 : w41.cell? ⟨R, 10, none⟩ = some (.slice none 0 0) := HD41.out.res.cell 10
    have fz10 : w41.frozen? ⟨R, 10, none⟩ = false := HD41.out.res.free 10
    have z11 : w41.cell? ⟨R, 11, none⟩ = some (.slice none 0 0) := HD41.out.res.cell 11
    have fz11 : w41.frozen? ⟨R, 11, none⟩ = false := HD41.out.res.free 11
    go_wp2_with fail
    go_quiet (fail)
    go_wp2_with fail
    exact bodyPost_ret (dump_results _ _ R rfl ((HD41.out.res.drewN _).sets _ _ _ _ _ _ _ _ _ _ _ _)) rfl (HF.out _)
end Go.Proofs.YtbfebfeliddpnaaDoor
