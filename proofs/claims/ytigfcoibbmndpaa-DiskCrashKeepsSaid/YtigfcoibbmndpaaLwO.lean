/- Load; two disks side by side. -/
import Derived.Test.YtigfcoibbmndpaaLwK
import Derived.Test.YtigfcoibbmndpaaLwM
import Derived.Outline
namespace Go.Proofs.Ytigfcoibbmndpaa
open Go.RowKit
open Go.ChangeMaps
set_option linter.unusedVariables false
set_option linter.unusedSimpArgs false
/-- The disk that Load gives. -/
def loadS (nb sz : Nat) (xs : List Int) : DSt := { newS nb sz with dur := fun k => (xs.drop (k * sz)).take sz }
theorem loadS_wf {nb sz : Nat} {xs : List Int} (h1 : 1 ≤ nb) (h2 : nb ≤ 8192) (hs : Size sz) (hl : xs.length = nb * sz) : DWf (loadS nb sz xs) := by
  have h := newS_wf h1 h2 hs
  refine ⟨h.nb1, h.nb2, h.sz0, h.sz1, fun k hk => ?_, h.cl, h.cn, h.f0, h.f1⟩
  show ((xs.drop (k * sz)).take sz).length = sz
  have hfit : k * sz + sz ≤ nb * sz := by rw [← Nat.succ_mul]; exact Nat.mul_le_mul_right sz hk
  rw [List.length_take, List.length_drop]
  omega
theorem loadS_durF {nb sz : Nat} {xs : List Int} (hs : 0 < sz) (i : Nat) : durF (loadS nb sz xs) i = xs.getD i 0 := by
  show ((xs.drop (i / sz * sz)).take sz).getD (i % sz) 0 = _
  simp only [List.getD_eq_getElem?_getD]
  rw [List.getElem?_take, if_pos (Nat.mod_lt i hs), List.getElem?_drop, Nat.div_add_mod']
theorem splice_full (zs : List Int) (cur : List Value) (hc : cur.length = zs.length) : splice cur 0 (zs.map (Value.int .u8)) = zs.map (Value.int .u8) := by
  unfold splice
  rw [List.take_zero, List.nil_append, Nat.zero_add, List.length_map, List.drop_eq_nil_of_le (by omega), List.append_nil]
theorem DRepX.loaded {w w1 : World} {d m c B ms mc nb sz : Nat} {F : Int → Option Value} {G : Nat → Prop} {xs : List Int} (h : DRepX w d m c B ms mc F G (newS nb sz)) (h1 : 1 ≤ nb) (h2 : nb ≤ 8192) (hs : Size sz) (hl : xs.length = nb * sz)
    (hrow : RowA .u8 5 w1 B (nb * sz) (fun i => xs.getD i 0)) (hfar : ∀ b, b ≠ B → w1.heap[b]? = w.heap[b]?) (hz : w1.heap.size = w.heap.size) : DRepX w1 d m c B ms mc F G (loadS nb sz xs) := by
  have h0 : 0 < sz := by unfold Size at hs; omega
  have hdB : B ≠ d := h.med.row.ne_blk h.blk (by decide)
  have hmB : B ≠ m := h.med.row.ne_blk h.med.blk (by decide)
  have hcB : B ≠ c := h.med.row.ne_blk h.cac.blk (by decide)
  have hsB : B ≠ ms := h.med.row.ne_map h.med.map
  have hmcB : B ≠ mc := h.med.row.ne_map h.cac.map
  refine ⟨loadS_wf h1 h2 hs hl, (hfar d (fun e => hdB e.symm)).trans h.blk, ⟨(hfar m (fun e => hmB e.symm)).trans h.med.blk, ?_, ?_⟩, ?_, ?_, h.ne, fun b hb => ?_⟩
  · exact hrow.congr (fun i hi => (loadS_durF h0 i).symm)
  · exact h.med.map.keep (hfar ms (fun e => hsB e.symm))
  · exact h.cac.keep (hfar c (fun e => hcB e.symm)) (hfar mc (fun e => hmcB e.symm))
  · refine ⟨h.car.no, fun j v hj => ?_, h.car.inj⟩
    obtain ⟨a, b, g, hg⟩ := h.car.yes j v hj
    exact ⟨a, b, g, hg.keep (fun b hb => hfar b (fun e => (h.apart b hb).2.2.2.2.1 e)) (fun _ h => h)⟩
  · rw [hz]; exact h.apart b hb
def LoadQ (w : World) (nb sz : Nat) (xs : List Int) (e : Ending) (w' : World) : Prop :=
  ∃ d O, e = .returned (.tuple #[.pointer (some ⟨d, 0, none⟩), .int .i64 0]) ∧ DRep O w' d (loadS nb sz xs) ∧ (∀ b, O b → w.heap.size ≤ b) ∧ Below w.heap.size w w'
set_option maxHeartbeats 2000000 in
set_option maxRecDepth 100000 in
theorem load_ok (w : World) (nb sz : Nat) (v : Value) (xs : List Int) (h1 : 1 ≤ nb) (h2 : nb ≤ 8192) (hs : Size sz) (hr : Rd .u8 w v xs) (hl : xs.length = nb * sz) :
    Calls Try.prog 37 #[.int .i64 nb, .int .i64 sz, v] w (LoadQ w nb sz xs) := by
  obtain ⟨Q, eQ⟩ : ∃ Q, Q = LoadQ w nb sz xs := ⟨_, rfl⟩
  rw [← eQ]
  have EQ := Lib.hid eQ
  clear eQ
  obtain ⟨A, c0, rfl⟩ := hr.slice
  obtain ⟨M, eM⟩ : ∃ M, M = nb * sz := ⟨_, rfl⟩
  have hsz : 0 < sz ∧ sz ≤ 1024 := by unfold Size at hs; omega
  have hM : M ≤ 8388608 := by
    rw [eM]
    exact Nat.le_trans (Nat.mul_le_mul h2 hsz.2) (by decide)
  have hM0 : 0 < M := by rw [eM]; exact Nat.mul_pos h1 hsz.1
  have m1 : (nb : Int) * (sz : Int) = (M : Int) := by rw [eM]; exact (Int.natCast_mul _ _).symm
  have m2 : IntKind.i64.wrap ((nb : Int) * (sz : Int)) = (M : Int) := by rw [m1]; exact IntWalk.i64_in _ (by omega)
  rw [hl, ← eM]
  have EM := Lib.hid eM
  have HL := Lib.hid (hl.trans eM.symm)
  have HR := Lib.hid hr
  have HS := Lib.hid hs
  have HN := Lib.hid (new_ok w nb sz h1 h2 hs)
  clear eM hl hr hs hsz
  go_enter Try.func37, Try.ntmps37
  go_wp2_with fail
  refine HN.out.mono ?_
  rintro e w1 ⟨d, O, rfl, hdr, hO, hb1⟩
  obtain ⟨m, c, B, ms, mc, F, G, hx, hown, hlt⟩ := hdr
  have c2 : w1.cell? ⟨d, 2, none⟩ = some (.pointer (some ⟨m, 0, none⟩)) := hx.blk.cell 2
  have c1 : w1.cell? ⟨m, 1, none⟩ = some (.slice (some ⟨B, 0, none⟩) M M) := by rw [EM.out]; exact hx.med.blk.cell 1
  have hBO : O B := hown B (.inr (.inr (.inr (.inl rfl))))
  obtain ⟨cur, hcb, hcl, hcr⟩ := row_splice (w := w1) (p := 0) (by have := hx.med.row; exact this) xs (by rw [HL.out, EM.out]; exact Nat.le_of_eq (Nat.zero_add _))
  obtain ⟨b, off, rfl, hbb, hsrc⟩ : ∃ b off, A = some ⟨b, off, none⟩ ∧ b < w.heap.size ∧ ∀ j v, (xs.map (Value.int .u8))[j]? = some v → w1.cell? ((⟨b, off, none⟩ : Addr).add j) = some v := by
    rcases HR.out with ⟨h0, _⟩ | ⟨b, off, c, e, g1, g2, g3, g4⟩
    · have := HL.out; rw [h0] at this; simp at this; omega
    · simp only [Value.slice.injEq] at e
      refine ⟨b, off, e.1, g3, fun j v hj => ?_⟩
      have hj' : j < xs.length := by have := (List.getElem?_eq_some_iff.1 hj).1; simpa using this
      rw [Go.WideShapes.add_plain]
      rw [List.getElem?_map, List.getElem?_eq_getElem hj'] at hj
      have := g4 j hj'
      rw [List.getD_eq_getElem?_getD, List.getElem?_eq_getElem hj'] at this
      exact ((cell_of_heap (hb1.block b g3) (off + j)).trans this).trans hj
  have hend : Q (.returned (.tuple #[.pointer (some ⟨d, 0, none⟩), .int .i64 0])) (w1.setRow B (splice cur 0 (xs.map (Value.int .u8))).toArray) := by
    rw [EQ.out]
    have hbB : w.heap.size ≤ B := hO B hBO
    have honly : OnlyP (fun x => x = B) w1 (w1.setRow B (splice cur 0 (xs.map (Value.int .u8))).toArray) := OnlyP.setRow (OnlyP.refl (fun x => x = B) w1) (.inl rfl) _
    have hx2 := hx.loaded (w1 := w1.setRow B (splice cur 0 (xs.map (Value.int .u8))).toArray) (xs := xs) h1 h2 HS.out (by rw [HL.out, EM.out])
      (hcr.congr (fun i hi => by unfold layF; rw [if_pos ⟨Nat.zero_le _, by rw [Nat.zero_add, HL.out, EM.out]; exact hi⟩, Nat.sub_zero]))
      (fun x hx => heap_setRow _ B x _ hx) (by simp [World.setRow])
    refine ⟨d, O, rfl, ⟨m, c, B, ms, mc, F, G, hx2, hown, fun x hx => Nat.lt_of_lt_of_le (hlt x hx) honly.size⟩, hO, hb1.trans (honly.below hb1.size (fun x hx => by rw [hx]; exact hbB))⟩
  have HE := Lib.hid hend
  have HCB := Lib.hid hcb
  have HCL := Lib.hid hcl
  have HSRC := Lib.hid hsrc
  have HE2 : Hid (∀ w2, w2 = w1.setRow B (splice cur 0 (xs.map (Value.int .u8))).toArray → Q (.returned (.tuple #[.pointer (some ⟨d, 0, none⟩), .int .i64 0])) w2) := Lib.hid (fun w2 h => by rw [h]; exact HE.out)
  clear hend hcb hcl hcr hsrc hx hown hlt hO hb1 HN HE
  go_wp2_with (refine wpList_copy_exact _ rfl (.tmp 31) (.tmp 32) 24 24 rfl 5 Try.underlying24 hd_size5 B 0 ⟨b, off, none⟩ _ _ _ _ rfl rfl cur 5 HCB.out (xs.map (Value.int .u8)) ?c1 HSRC.out ?c3 ?c4 ?_)
  case c1 => rw [List.length_map, HL.out]; exact (Nat.min_self M).symm
  case c3 => rw [List.length_map, HL.out, HCL.out, EM.out]; exact Nat.le_of_eq (Nat.zero_add _)
  case c4 => intro x hx; simp only [List.mem_map] at hx; obtain ⟨y, _, rfl⟩ := hx; rfl
  obtain ⟨w2, ew2⟩ : ∃ w2, w2 = w1.setRow B (splice cur 0 (xs.map (Value.int .u8))).toArray := ⟨_, rfl⟩
  have HF := Lib.hid (HE2.out w2 ew2)
  rw [← ew2]
  clear ew2 HE2 c1 c2
  go_wp2_with fail
  first | exact HF.out | (go_ret2; exact HF.out)
/-- Two disks side by side. -/
structure Two (w wc : World) (d : Nat) (s : DSt) (O : Nat → Prop) (c : Nat) (t : DSt) (P : Nat → Prop) : Prop where
  a : Cur w wc d s O
  b : Cur w wc c t P
  ne : ∀ x, O x → ¬ P x
theorem Two.flip {w wc : World} {d c : Nat} {s t : DSt} {O P : Nat → Prop} (h : Two w wc d s O c t P) : Two w wc c t P d s O := ⟨h.b, h.a, fun x hx ho => h.ne x ho hx⟩
theorem Two.below {w wc w2 : World} {d c : Nat} {s t : DSt} {O P : Nat → Prop} (h : Two w wc d s O c t P) (hb : Below wc.heap.size wc w2) : Two w w2 d s O c t P := ⟨h.a.below hb, h.b.below hb, h.ne⟩
theorem Two.stepA {w wc w2 : World} {d c : Nat} {s s2 t : DSt} {O P : Nat → Prop} (h : Two w wc d s O c t P) (hst : DStep O wc w2 d s2) : ∃ O2, Two w w2 d s2 O2 c t P := by
  obtain ⟨O2, hc, hO, ho⟩ := h.a.step hst
  refine ⟨O2, hc, ⟨h.b.rep.keep (fun x hx => ho.block x (h.b.rep.lt hx) (fun hO => h.ne x hO hx)) ho.size, h.b.new, hc.bel⟩, fun x hx hp => ?_⟩
  rcases hO x hx with h1 | h1
  · exact h.ne x h1 hp
  · have := h.b.rep.lt hp; omega
theorem Two.stepB {w wc w2 : World} {d c : Nat} {s t t2 : DSt} {O P : Nat → Prop} (h : Two w wc d s O c t P) (hst : DStep P wc w2 c t2) : ∃ P2, Two w w2 d s O c t2 P2 := by
  obtain ⟨P2, h2⟩ := h.flip.stepA hst
  exact ⟨P2, h2.flip⟩
theorem Two.sameA {w wc w2 : World} {d c : Nat} {s s2 t : DSt} {O P : Nat → Prop} (h : Two w wc d s O c t P) (ho : OnlyP O wc w2) (hd : DRep O w2 d s2) : Two w w2 d s2 O c t P :=
  ⟨h.a.same ho hd, ⟨h.b.rep.keep (fun x hx => ho.block x (h.b.rep.lt hx) (fun hO => h.ne x hO hx)) ho.size, h.b.new, h.b.bel.trans (ho.below h.a.bel.size h.a.new)⟩, h.ne⟩
theorem Two.sameB {w wc w2 : World} {d c : Nat} {s t t2 : DSt} {O P : Nat → Prop} (h : Two w wc d s O c t P) (ho : OnlyP P wc w2) (hd : DRep P w2 c t2) : Two w w2 d s O c t2 P := (h.flip.sameA ho hd).flip
theorem Two.mk' {w w1 w2 : World} {d c : Nat} {s t : DSt} {O P : Nat → Prop} (h : Cur w w1 d s O) (hd : DRep P w2 c t) (hP : ∀ b, P b → w1.heap.size ≤ b) (hb : Below w1.heap.size w1 w2) : Two w w2 d s O c t P :=
  ⟨h.below hb, ⟨hd, fun b hb' => Nat.le_trans h.bel.size (hP b hb'), h.bel.trans (hb.mono h.bel.size)⟩, fun x hx hp => by have := h.rep.lt hx; have := hP x hp; omega⟩
end Go.Proofs.Ytigfcoibbmndpaa
