/- A disk behind any script: fresh. -/
import Derived.Test.YtigfcoibbmndpaaLwD
import Derived.Outline
namespace Go.Proofs.Ytigfcoibbmndpaa
open Go.RowKit
open Go.ChangeMaps
set_option linter.unusedVariables false
set_option linter.unusedSimpArgs false
theorem zeroRun_facts (zs : List Int) : ∀ (n : Nat) (s : DSt) (k : Nat), (zeroRun zs n s k).1.nb = s.nb ∧ (zeroRun zs n s k).1.sz = s.sz ∧ ∀ j, ((zeroRun zs n s k).1.ca j).length ≤ (s.ca j).length + 1 ∧ (j < k → ((zeroRun zs n s k).1.ca j).length ≤ (s.ca j).length) := by
  intro n
  induction n with
  | zero => intro s k; exact ⟨rfl, rfl, fun j => ⟨Nat.le_succ _, fun _ => Nat.le_refl _⟩⟩
  | succ n ih =>
    intro s k
    have hs := stepS_same s
    simp only [zeroRun]
    split
    · obtain ⟨h1, h2, h3⟩ := ih (pushS (stepS s) k zs) (k + 1)
      have hca : ∀ j, (pushS (stepS s) k zs).ca j = if j = k then s.ca k ++ [zs] else s.ca j := fun j => by
        show pushC (stepS s).ca k zs j = _
        unfold pushC
        rw [hs.2.2.2.2]
      refine ⟨h1.trans hs.1, h2.trans hs.2.1, fun j => ?_⟩
      obtain ⟨h4, h5⟩ := h3 j
      rw [hca] at h4 h5
      by_cases hjk : j = k
      · subst hjk
        rw [if_pos rfl] at h4 h5
        have := h5 (by omega)
        rw [List.length_append] at this
        simp only [List.length_cons, List.length_nil] at this
        exact ⟨by omega, fun h => by omega⟩
      · rw [if_neg hjk] at h4 h5
        exact ⟨h4, fun h => h5 (by omega)⟩
    · exact ⟨hs.1, hs.2.1, fun j => by dsimp only; rw [hs.2.2.2.2]; exact ⟨Nat.le_succ _, fun _ => Nat.le_refl _⟩⟩
/-- A call changes neither the geometry nor, by more than one, how many writes a block has. -/
def Grows (s t : DSt) : Prop := t.nb = s.nb ∧ t.sz = s.sz ∧ ∀ k, (t.ca k).length ≤ (s.ca k).length + 1
theorem Grows.refl (s : DSt) : Grows s s := ⟨rfl, rfl, fun _ => Nat.le_succ _⟩
theorem stepS_grows (s : DSt) : Grows s (stepS s) := ⟨(stepS_same s).1, (stepS_same s).2.1, fun k => by rw [(stepS_same s).2.2.2.2]; exact Nat.le_succ _⟩
theorem callS_grows (s : DSt) (o : OpV) : Grows s (callS s o) := by
  have hs := stepS_same s
  unfold callS
  split
  · unfold readS; split
    · exact ⟨rfl, rfl, fun _ => Nat.le_succ _⟩
    · exact Grows.refl s
  split
  · unfold writeS; split
    · exact Grows.refl s
    split
    · refine ⟨hs.1, hs.2.1, fun k => ?_⟩
      show (pushC (stepS s).ca o.blk.toNat o.data k).length ≤ _
      unfold pushC
      rw [hs.2.2.2.2]
      split
      · rename_i h; rw [h]; simp
      · exact Nat.le_succ _
    · exact stepS_grows s
  split
  · unfold throughS; split
    · exact Grows.refl s
    split
    · refine ⟨hs.1, hs.2.1, fun k => ?_⟩
      show (dropC (stepS s).ca o.blk.toNat k).length ≤ _
      unfold dropC
      rw [hs.2.2.2.2]
      split
      · simp
      · exact Nat.le_succ _
    · exact stepS_grows s
  split
  · unfold zeroR
    split
    · exact Grows.refl s
    split
    · exact Grows.refl s
    split
    · exact Grows.refl s
    · obtain ⟨h1, h2, h3⟩ := zeroRun_facts (List.replicate s.sz 0) o.cnt.toNat s o.blk.toNat
      exact ⟨h1, h2, fun k => (h3 k).1⟩
  split
  · unfold flushS; split
    · exact ⟨hs.1, hs.2.1, fun k => by show ([] : List (List Int)).length ≤ _; simp⟩
    · exact stepS_grows s
  split
  · unfold spoilS; split
    · exact ⟨rfl, rfl, fun _ => Nat.le_succ _⟩
    · exact Grows.refl s
  split
  · exact ⟨rfl, rfl, fun _ => Nat.le_succ _⟩
  split
  · exact ⟨rfl, rfl, fun k => by show ([] : List (List Int)).length ≤ _; simp⟩
  · exact Grows.refl s
noncomputable def runS (s : DSt) (os : List OpV) : DSt := os.foldl callS s
theorem runS_succ (s : DSt) (os : List OpV) (i : Nat) (h : i < os.length) (d0 : OpV) : runS s (os.take (i + 1)) = callS (runS s (os.take i)) (os.getD i d0) := by
  unfold runS
  rw [List.take_add_one, List.foldl_append, List.getD_eq_getElem?_getD, List.getElem?_eq_getElem h]
  rfl
/-- The disk that fresh gives. -/
noncomputable def freshS (nb sz : Nat) (os : List OpV) : DSt := crashS (fuseS (runS (newS nb sz) os) (-1)) []
def d0 : OpV := ⟨0, 0, 0, .slice none 0 0, []⟩
/-- A call's words in the world. -/
structure OpR1 (w : World) (b off : Nat) (o : OpV) : Prop where
  c0 : w.cell? ⟨b, off, none⟩ = some (.int .i64 o.kind)
  c1 : w.cell? ⟨b, off + 1, none⟩ = some (.int .i64 o.blk)
  c2 : w.cell? ⟨b, off + 2, none⟩ = some (.int .i64 o.cnt)
  c3 : w.cell? ⟨b, off + 3, none⟩ = some o.dv
  rd : Rd .u8 w o.dv o.data
  i1 : I64 o.blk
  i2 : I64 o.cnt
  bl : BytesL o.data
  ln : o.data.length ≤ 9223372036854775807
def OpsR (w : World) (v : Value) (os : List OpV) : Prop :=
  os.length * 48 ≤ 140737488351232 ∧ ((os = [] ∧ ∃ A c, v = .slice A 0 c) ∨ ∃ b off c, v = .slice (some ⟨b, off, none⟩) os.length c ∧ 0 < os.length ∧ os.length ≤ c ∧ b < w.heap.size ∧ ∀ i, i < os.length → OpR1 w b (off + i * 4) (os.getD i d0))
theorem OpsR.slice {w : World} {v : Value} {os : List OpV} (h : OpsR w v os) : ∃ A c, v = .slice A os.length c := by
  rcases h.2 with ⟨rfl, A, c, rfl⟩ | ⟨b, off, c, rfl, _⟩
  · exact ⟨A, c, rfl⟩
  · exact ⟨_, c, rfl⟩
def FreshQ (w : World) (nb sz : Nat) (os : List OpV) (e : Ending) (w' : World) : Prop :=
  ∃ d O, e = .returned (.pointer (some ⟨d, 0, none⟩)) ∧ DRep O w' d (freshS nb sz os) ∧ (∀ b, O b → w.heap.size ≤ b) ∧ Below w.heap.size w w'
theorem rdN_old {O : Nat → Prop} {B : Nat} {w w1 : World} {v : Value} {xs : List Int} (h : Rd .u8 w v xs) (hB : w.heap.size ≤ B) (hb : Below w.heap.size w w1) (hO : ∀ b, O b → B ≤ b) : RdN O w1 v xs := by
  refine ⟨h.below hb, ?_⟩
  intro b1 off1 n1 c1 he hn hb1
  have := hO b1 hb1
  rcases h with ⟨_, A, c, rfl⟩ | ⟨b, off, c, rfl, h1, h2, h3, h4⟩
  · simp only [Value.slice.injEq] at he
    omega
  · simp only [Value.slice.injEq, Option.some.injEq, Addr.mk.injEq] at he
    omega
theorem OpR1.below {w w1 : World} {b off : Nat} {o : OpV} (h : OpR1 w b off o) (hb : b < w.heap.size) (hw : Below w.heap.size w w1) : OpR1 w1 b off o :=
  have hc : ∀ i, w1.cell? ⟨b, i, none⟩ = w.cell? ⟨b, i, none⟩ := fun i => cell_of_heap (hw.block b hb) i
  ⟨(hc _).trans h.c0, (hc _).trans h.c1, (hc _).trans h.c2, (hc _).trans h.c3, h.rd.below hw, h.i1, h.i2, h.bl, h.ln⟩
theorem runS_grows (s : DSt) (os : List OpV) (k : Nat) : (runS s os).nb = s.nb ∧ (runS s os).sz = s.sz ∧ ((runS s os).ca k).length ≤ (s.ca k).length + os.length := by
  induction os generalizing s with
  | nil => exact ⟨rfl, rfl, Nat.le_refl _⟩
  | cons o os ih =>
    have h := callS_grows s o
    obtain ⟨h1, h2, h3⟩ := ih (callS s o)
    refine ⟨h1.trans h.1, h2.trans h.2.1, ?_⟩
    have := h.2.2 k
    rw [List.length_cons]
    show ((runS (callS s o) os).ca k).length ≤ _
    omega
set_option maxHeartbeats 4000000 in
set_option maxRecDepth 100000 in
theorem freshD_ok (w : World) (nb sz : Nat) (v : Value) (os : List OpV) (h1 : 1 ≤ nb) (h2 : nb ≤ 8192) (hs : Size sz) (hv : OpsR w v os) :
    Calls Try.prog 11 #[.int .i64 nb, .int .i64 sz, v] w (FreshQ w nb sz os) := by
  obtain ⟨Q, eQ⟩ : ∃ Q, Q = FreshQ w nb sz os := ⟨_, rfl⟩
  rw [← eQ]
  have EQ := Lib.hid eQ
  obtain ⟨A, cp, rfl⟩ := hv.slice
  obtain ⟨L, eL⟩ : ∃ L, L = os.length := ⟨_, rfl⟩
  have hL : L * 24 ≤ 140737488351232 := by rw [eL]; have := hv.1; omega
  have HV := Lib.hid hv
  have EL := Lib.hid eL
  rw [← eL]
  have HN := Lib.hid (new_ok w nb sz h1 h2 hs)
  clear eQ hv eL hs
  go_enter Try.func11, Try.ntmps11
  go_wp2_with fail
  refine HN.out.mono ?_
  rintro e w1 ⟨d, O, rfl, hdr, hO, hb1⟩
  have HD := Lib.hid hdr
  have HO := Lib.hid hO
  have HB1 := Lib.hid hb1
  clear hdr hO hb1 HN
  go_wp2_with fail
  go_loopw [9] (fun b wr => ∃ i : Nat, i ≤ L ∧ b = .int .i64 i ∧ ∃ O', DRep O' wr d (runS (newS nb sz) (os.take i)) ∧ (∀ b, O' b → w.heap.size ≤ b) ∧ Below w.heap.size w wr) (fun b _ => L - (intOf b).toNat)
  case atStart => exact ⟨0, Nat.zero_le _, rfl, O, HD.out, HO.out, HB1.out⟩
  case round =>
    obtain ⟨i, hi, rfl, O2, hdr, hO2, hb2⟩ := hrel
    have HDR := Lib.hid hdr
    have HO2 := Lib.hid hO2
    have HB2 := Lib.hid hb2
    clear hdr hO2 hb2 HD HO HB1
    have hgr := runS_grows (newS nb sz) (os.take i)
    by_cases hlt : i < L
    · obtain ⟨bb, off, rfl, hbb, ho1⟩ : ∃ bb off, A = some ⟨bb, off, none⟩ ∧ bb < w.heap.size ∧ OpR1 w bb (off + i * 4) (os.getD i d0) := by
        rcases HV.out.2 with ⟨h, _⟩ | ⟨b, off, c, e, g1, g2, g3, g4⟩
        · have := EL.out; rw [h] at this; simp at this; omega
        · simp only [Value.slice.injEq] at e
          exact ⟨b, off, e.1, g3, g4 i (by rw [← EL.out]; exact hlt)⟩
      obtain ⟨o, eo⟩ : ∃ o, o = os.getD i d0 := ⟨_, rfl⟩
      rw [← eo] at ho1
      have ho2 := ho1.below hbb HB2.out
      have k0 := ho2.c0
      have k1 := ho2.c1
      have k2 := ho2.c2
      have k3 := ho2.c3
      have hca := call_ok O2 wr d _ o HDR.out (rdN_old ho1.rd (Nat.le_refl _) HB2.out HO2.out) ho1.i1 ho1.i2 ho1.bl ho1.ln (fun k => by
        have h3 := (runS_grows (newS nb sz) (os.take i) k).2.2
        rw [List.length_take] at h3
        have : ((newS nb sz).ca k).length = 0 := rfl
        omega)
      rw [eo, ← runS_succ _ _ _ (by rw [← EL.out]; exact hlt) d0, ← eo] at hca
      have HCA := Lib.hid hca
      unfold OpV.agg at HCA
      clear hca eo ho1 ho2 hgr
      obtain ⟨kind, blk, cnt, dv, data⟩ := o
      dsimp only at k0 k1 k2 k3 HCA
      go_wp2_with fail
      refine HCA.out.mono ?_
      rintro e w2 ⟨rfl, hst⟩
      obtain ⟨hon, O3, hdr3, hO3⟩ := hst
      have hO4 : ∀ b, O3 b → w.heap.size ≤ b := fun b hb => (hO3 b hb).elim (HO2.out b) (fun h => Nat.le_trans HB2.out.size h)
      have hb4 : Below w.heap.size w w2 := HB2.out.trans (hon.below HB2.out.size HO2.out)
      have HD3 := Lib.hid hdr3
      have HO4 := Lib.hid hO4
      have HB4 := Lib.hid hb4
      clear hon hdr3 hO3 hO4 hb4
      go_wp2_with fail
      go_roundw
      case rel => exact ⟨i + 1, by omega, by go_num, O3, HD3.out, HO4.out, HB4.out⟩
      case measure => simp [intOf] <;> omega
    · obtain rfl : L = i := by omega
      have hfu := fuse_ok O2 wr d _ (-1) HDR.out (by decide)
      have HFU := Lib.hid hfu
      have HLC : Hid (∀ k, ((runS (newS nb sz) (os.take L)).ca k).length ≤ 100000000000000) := Lib.hid (fun k => by
        have h3 := (runS_grows (newS nb sz) (os.take L) k).2.2
        rw [List.length_take] at h3
        have : ((newS nb sz).ca k).length = 0 := rfl
        omega)
      clear hfu hgr
      go_wp2_with fail
      refine HFU.out.mono ?_
      rintro e w2 ⟨rfl, hst⟩
      obtain ⟨hon, O3, hdr3, hO3⟩ := hst
      have hcr := crash_ok O3 w2 d _ (.slice none 0 0) [] hdr3 ⟨.inl ⟨rfl, _, _, rfl⟩, fun b off n c he => by cases he⟩ (fun x hx => by cases hx) (by simp) (fun k => HLC.out k)
      have hfin : ∀ w3, DStep O3 w2 w3 d (freshS nb sz os) → Q (.returned (.pointer (some ⟨d, 0, none⟩))) w3 := fun w3 hst3 => by
        rw [EQ.out]
        obtain ⟨hon4, O4, hdr4, hO4⟩ := hst3
        have hO3' : ∀ b, O3 b → w.heap.size ≤ b := fun b hb => (hO3 b hb).elim (HO2.out b) (fun h => Nat.le_trans HB2.out.size h)
        have hb3 : Below w.heap.size w w2 := HB2.out.trans (hon.below HB2.out.size HO2.out)
        refine ⟨d, O4, rfl, hdr4, fun b hb => (hO4 b hb).elim (hO3' b) (fun h => Nat.le_trans hb3.size h), hb3.trans (hon4.below hb3.size hO3')⟩
      have efr : freshS nb sz os = crashS (fuseS (runS (newS nb sz) (os.take L)) (-1)) [] := by
        unfold freshS; rw [List.take_of_length_le (by rw [← EL.out]; exact Nat.le_refl _)]
      rw [efr] at hfin
      have HF := Lib.hid hfin
      have HCR := Lib.hid hcr
      clear hfin hcr hon hdr3 hO3 efr
      go_wp2_with fail
      refine HCR.out.mono ?_
      rintro e w3 ⟨rfl, hst⟩
      have HF' := Lib.hid (HF.out w3 hst)
      clear hst HF
      go_wp2_with fail
      first | exact HF'.out | (go_ret; exact HF'.out)
end Go.Proofs.Ytigfcoibbmndpaa
