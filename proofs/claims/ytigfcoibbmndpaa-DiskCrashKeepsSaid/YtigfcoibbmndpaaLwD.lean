/- One call of whatever kind: call. Printed by wip/tools/gen_call.py. -/
import Derived.Test.YtigfcoibbmndpaaLwB
import Derived.Outline
namespace Go.Proofs.Ytigfcoibbmndpaa
open Go.RowKit
open Go.ChangeMaps
set_option linter.unusedVariables false
set_option linter.unusedSimpArgs false
structure OpV where
  kind : Int
  blk : Int
  cnt : Int
  dv : Value
  data : List Int
def OpV.agg (o : OpV) : Value := .agg #[.int .i64 o.kind, .int .i64 o.blk, .int .i64 o.cnt, o.dv]
/-- The disk behind a call. -/
noncomputable def callS (s : DSt) (o : OpV) : DSt :=
  if o.kind = 1 then readS s o.blk else if o.kind = 2 then writeS s o.blk o.data else if o.kind = 3 then throughS s o.blk o.data else if o.kind = 4 then (zeroR s o.blk o.cnt).1
  else if o.kind = 5 then flushS s else if o.kind = 10 then spoilS s o.blk else if o.kind = 11 then fuseS s o.cnt else if o.kind = 13 then crashS s o.data else s
theorem fuseS_wf {s : DSt} (h : DWf s) (n : Int) (hn : n < 9223372036854775808) : DWf (fuseS s n) :=
  ⟨h.nb1, h.nb2, h.sz0, h.sz1, h.dl, h.cl, h.cn, by show 0 ≤ max n 0; omega, by show max n 0 < _; omega⟩
theorem fuse_ok (O : Nat → Prop) (w : World) (d : Nat) (s : DSt) (n : Int) (h : DRep O w d s) (hn : n < 9223372036854775808) :
    Calls Try.prog 25 #[.pointer (some ⟨d, 0, none⟩), .int .i64 n] w (DoneQ O w d (fuseS s n)) := by
  obtain ⟨m, c, B, ms, mc, F, G, hx, hO, hl⟩ := h
  refine (fuse_blk w d m c s n hx.blk).mono ?_
  rintro e w' ⟨rfl, ho, hb'⟩
  exact ⟨rfl, (ho.cellsX hx hb' (fuseS_wf hx.wf n hn) rfl rfl rfl rfl rfl).rep hO hl (ho.only (hO d (.inl rfl))) (fun b hb => .inl hb)⟩
theorem i64_rng {j : Int} (h : I64 j) : -9223372036854775808 ≤ j ∧ j ≤ 9223372036854775807 := by
  unfold I64 at h
  simp only [Lit.wf, Bool.and_eq_true, decide_eq_true_eq] at h
  exact h
theorem i64_lt {j : Int} (h : I64 j) : j < 9223372036854775808 := by
  obtain ⟨_, h2⟩ := i64_rng h
  omega
set_option maxRecDepth 100000 in
set_option maxHeartbeats 2000000 in
set_option maxRecDepth 100000 in
theorem call_1 (O : Nat → Prop) (w : World) (d : Nat) (s : DSt) (o : OpV) (h : DRep O w d s) (hr : RdN O w o.dv o.data) (hI1 : I64 o.blk) (hI2 : I64 o.cnt) (hb : BytesL o.data) (hl : o.data.length ≤ 9223372036854775807) (hcap : ∀ k, ((s.ca k).length + 1) * 24 ≤ 200000000000000) (hk : o.kind = 1) :
    Calls Try.prog 35 #[.pointer (some ⟨d, 0, none⟩), o.agg] w (DoneQ O w d (callS s o)) := by
  have HK : Hid (readS s o.blk = callS s o) := Lib.hid (by unfold callS; rw [hk]; simp)
  obtain ⟨Q, eQ⟩ : ∃ Q, Q = DoneQ O w d (callS s o) := ⟨_, rfl⟩
  rw [← eQ]
  obtain ⟨w1, e1⟩ : ∃ w1, w1 = w.alloc (.cells #[.int .i64 o.kind, .int .i64 o.blk, .int .i64 o.cnt, o.dv] 61) := ⟨_, rfl⟩
  have hb1 : Below w.heap.size w w1 := by rw [e1]; exact (Below.refl _ _).alloc (Nat.le_refl _) _
  obtain ⟨A, cp, edv⟩ := hr.1.slice
  have HS : Hid (∀ s1 w2, DStep O w1 w2 d s1 → s1 = callS s o → Q (.returned (.tuple #[])) w2) := Lib.hid (fun s1 w2 hst hs => by
    rw [eQ, ← hs]
    exact ⟨rfl, DStep.comp (OnlyP.ofBelow hb1) (fun b hb => .inl hb) hst⟩)
  have HD1 := Lib.hid (h.below hb1)
  have HR1 : Hid (RdN O w1 o.dv o.data) := Lib.hid ⟨hr.1.below hb1, hr.2⟩
  have HB := Lib.hid hb
  have HL := Lib.hid hl
  have HC24 := Lib.hid hcap
  have HCAP : Hid (∀ k, (s.ca k).length ≤ 100000000000000) := Lib.hid (fun k => by have := hcap k; omega)
  subst e1
  clear hb1 hb hl hcap h hr eQ
  obtain ⟨kind, blk, cnt, dv, data⟩ := o
  dsimp only at hk edv hI1 hI2
  subst hk edv
  simp only [OpV.agg]
  go_enter Try.func35, Try.ntmps35
  go_wp2_with fail
  refine (read_ok O _ d s blk HD1.out (HCAP.out _)).mono ?_
  rintro e w2 ⟨v, er, rfl, _, _, hon, hdr⟩
  have HF := Lib.hid (HS.out _ w2 ⟨hon, O, hdr, fun b hb => .inl hb⟩ HK.out)
  clear HS HD1 HR1
  go_wp2_with fail
  first | exact HF.out | (go_end0; exact HF.out)
set_option maxHeartbeats 2000000 in
set_option maxRecDepth 100000 in
theorem call_2 (O : Nat → Prop) (w : World) (d : Nat) (s : DSt) (o : OpV) (h : DRep O w d s) (hr : RdN O w o.dv o.data) (hI1 : I64 o.blk) (hI2 : I64 o.cnt) (hb : BytesL o.data) (hl : o.data.length ≤ 9223372036854775807) (hcap : ∀ k, ((s.ca k).length + 1) * 24 ≤ 200000000000000) (hk : o.kind = 2) :
    Calls Try.prog 35 #[.pointer (some ⟨d, 0, none⟩), o.agg] w (DoneQ O w d (callS s o)) := by
  have HK : Hid (writeS s o.blk o.data = callS s o) := Lib.hid (by unfold callS; rw [hk]; simp)
  obtain ⟨Q, eQ⟩ : ∃ Q, Q = DoneQ O w d (callS s o) := ⟨_, rfl⟩
  rw [← eQ]
  obtain ⟨w1, e1⟩ : ∃ w1, w1 = w.alloc (.cells #[.int .i64 o.kind, .int .i64 o.blk, .int .i64 o.cnt, o.dv] 61) := ⟨_, rfl⟩
  have hb1 : Below w.heap.size w w1 := by rw [e1]; exact (Below.refl _ _).alloc (Nat.le_refl _) _
  obtain ⟨A, cp, edv⟩ := hr.1.slice
  have HS : Hid (∀ s1 w2, DStep O w1 w2 d s1 → s1 = callS s o → Q (.returned (.tuple #[])) w2) := Lib.hid (fun s1 w2 hst hs => by
    rw [eQ, ← hs]
    exact ⟨rfl, DStep.comp (OnlyP.ofBelow hb1) (fun b hb => .inl hb) hst⟩)
  have HD1 := Lib.hid (h.below hb1)
  have HR1 : Hid (RdN O w1 o.dv o.data) := Lib.hid ⟨hr.1.below hb1, hr.2⟩
  have HB := Lib.hid hb
  have HL := Lib.hid hl
  have HC24 := Lib.hid hcap
  have HCAP : Hid (∀ k, (s.ca k).length ≤ 100000000000000) := Lib.hid (fun k => by have := hcap k; omega)
  subst e1
  clear hb1 hb hl hcap h hr eQ
  obtain ⟨kind, blk, cnt, dv, data⟩ := o
  dsimp only at hk edv hI1 hI2
  subst hk edv
  simp only [OpV.agg]
  go_enter Try.func35, Try.ntmps35
  go_wp2_with fail
  refine (write_ok O _ d s _ _ data HD1.out HR1.out (HC24.out _)).mono ?_
  rintro e w2 ⟨er, rfl, _, hst⟩
  have HF := Lib.hid (HS.out _ w2 hst HK.out)
  clear HS HD1 HR1
  go_wp2_with fail
  first | exact HF.out | (go_end0; exact HF.out)
set_option maxHeartbeats 2000000 in
set_option maxRecDepth 100000 in
theorem call_3 (O : Nat → Prop) (w : World) (d : Nat) (s : DSt) (o : OpV) (h : DRep O w d s) (hr : RdN O w o.dv o.data) (hI1 : I64 o.blk) (hI2 : I64 o.cnt) (hb : BytesL o.data) (hl : o.data.length ≤ 9223372036854775807) (hcap : ∀ k, ((s.ca k).length + 1) * 24 ≤ 200000000000000) (hk : o.kind = 3) :
    Calls Try.prog 35 #[.pointer (some ⟨d, 0, none⟩), o.agg] w (DoneQ O w d (callS s o)) := by
  have HK : Hid (throughS s o.blk o.data = callS s o) := Lib.hid (by unfold callS; rw [hk]; simp)
  obtain ⟨Q, eQ⟩ : ∃ Q, Q = DoneQ O w d (callS s o) := ⟨_, rfl⟩
  rw [← eQ]
  obtain ⟨w1, e1⟩ : ∃ w1, w1 = w.alloc (.cells #[.int .i64 o.kind, .int .i64 o.blk, .int .i64 o.cnt, o.dv] 61) := ⟨_, rfl⟩
  have hb1 : Below w.heap.size w w1 := by rw [e1]; exact (Below.refl _ _).alloc (Nat.le_refl _) _
  obtain ⟨A, cp, edv⟩ := hr.1.slice
  have HS : Hid (∀ s1 w2, DStep O w1 w2 d s1 → s1 = callS s o → Q (.returned (.tuple #[])) w2) := Lib.hid (fun s1 w2 hst hs => by
    rw [eQ, ← hs]
    exact ⟨rfl, DStep.comp (OnlyP.ofBelow hb1) (fun b hb => .inl hb) hst⟩)
  have HD1 := Lib.hid (h.below hb1)
  have HR1 : Hid (RdN O w1 o.dv o.data) := Lib.hid ⟨hr.1.below hb1, hr.2⟩
  have HB := Lib.hid hb
  have HL := Lib.hid hl
  have HC24 := Lib.hid hcap
  have HCAP : Hid (∀ k, (s.ca k).length ≤ 100000000000000) := Lib.hid (fun k => by have := hcap k; omega)
  subst e1
  clear hb1 hb hl hcap h hr eQ
  obtain ⟨kind, blk, cnt, dv, data⟩ := o
  dsimp only at hk edv hI1 hI2
  subst hk edv
  simp only [OpV.agg]
  go_enter Try.func35, Try.ntmps35
  go_wp2_with fail
  refine (through_ok O _ d s _ _ data HD1.out HR1.out).mono ?_
  rintro e w2 ⟨er, rfl, _, hst⟩
  have HF := Lib.hid (HS.out _ w2 hst HK.out)
  clear HS HD1 HR1
  go_wp2_with fail
  first | exact HF.out | (go_end0; exact HF.out)
set_option maxHeartbeats 2000000 in
set_option maxRecDepth 100000 in
theorem call_4 (O : Nat → Prop) (w : World) (d : Nat) (s : DSt) (o : OpV) (h : DRep O w d s) (hr : RdN O w o.dv o.data) (hI1 : I64 o.blk) (hI2 : I64 o.cnt) (hb : BytesL o.data) (hl : o.data.length ≤ 9223372036854775807) (hcap : ∀ k, ((s.ca k).length + 1) * 24 ≤ 200000000000000) (hk : o.kind = 4) :
    Calls Try.prog 35 #[.pointer (some ⟨d, 0, none⟩), o.agg] w (DoneQ O w d (callS s o)) := by
  have HK : Hid ((zeroR s o.blk o.cnt).1 = callS s o) := Lib.hid (by unfold callS; rw [hk]; simp)
  obtain ⟨Q, eQ⟩ : ∃ Q, Q = DoneQ O w d (callS s o) := ⟨_, rfl⟩
  rw [← eQ]
  obtain ⟨w1, e1⟩ : ∃ w1, w1 = w.alloc (.cells #[.int .i64 o.kind, .int .i64 o.blk, .int .i64 o.cnt, o.dv] 61) := ⟨_, rfl⟩
  have hb1 : Below w.heap.size w w1 := by rw [e1]; exact (Below.refl _ _).alloc (Nat.le_refl _) _
  obtain ⟨A, cp, edv⟩ := hr.1.slice
  have HS : Hid (∀ s1 w2, DStep O w1 w2 d s1 → s1 = callS s o → Q (.returned (.tuple #[])) w2) := Lib.hid (fun s1 w2 hst hs => by
    rw [eQ, ← hs]
    exact ⟨rfl, DStep.comp (OnlyP.ofBelow hb1) (fun b hb => .inl hb) hst⟩)
  have HD1 := Lib.hid (h.below hb1)
  have HR1 : Hid (RdN O w1 o.dv o.data) := Lib.hid ⟨hr.1.below hb1, hr.2⟩
  have HB := Lib.hid hb
  have HL := Lib.hid hl
  have HC24 := Lib.hid hcap
  have HCAP : Hid (∀ k, (s.ca k).length ≤ 100000000000000) := Lib.hid (fun k => by have := hcap k; omega)
  subst e1
  clear hb1 hb hl hcap h hr eQ
  obtain ⟨kind, blk, cnt, dv, data⟩ := o
  dsimp only at hk edv hI1 hI2
  subst hk edv
  simp only [OpV.agg]
  go_enter Try.func35, Try.ntmps35
  go_wp2_with fail
  refine (zero_ok O _ d s blk cnt hI1 HD1.out (fun k => HC24.out k)).mono ?_
  rintro e w2 ⟨er, rfl, _, hst⟩
  have HF := Lib.hid (HS.out _ w2 hst HK.out)
  clear HS HD1 HR1
  go_wp2_with fail
  first | exact HF.out | (go_end0; exact HF.out)
set_option maxHeartbeats 2000000 in
set_option maxRecDepth 100000 in
theorem call_5 (O : Nat → Prop) (w : World) (d : Nat) (s : DSt) (o : OpV) (h : DRep O w d s) (hr : RdN O w o.dv o.data) (hI1 : I64 o.blk) (hI2 : I64 o.cnt) (hb : BytesL o.data) (hl : o.data.length ≤ 9223372036854775807) (hcap : ∀ k, ((s.ca k).length + 1) * 24 ≤ 200000000000000) (hk : o.kind = 5) :
    Calls Try.prog 35 #[.pointer (some ⟨d, 0, none⟩), o.agg] w (DoneQ O w d (callS s o)) := by
  have HK : Hid (flushS s = callS s o) := Lib.hid (by unfold callS; rw [hk]; simp)
  obtain ⟨Q, eQ⟩ : ∃ Q, Q = DoneQ O w d (callS s o) := ⟨_, rfl⟩
  rw [← eQ]
  obtain ⟨w1, e1⟩ : ∃ w1, w1 = w.alloc (.cells #[.int .i64 o.kind, .int .i64 o.blk, .int .i64 o.cnt, o.dv] 61) := ⟨_, rfl⟩
  have hb1 : Below w.heap.size w w1 := by rw [e1]; exact (Below.refl _ _).alloc (Nat.le_refl _) _
  obtain ⟨A, cp, edv⟩ := hr.1.slice
  have HS : Hid (∀ s1 w2, DStep O w1 w2 d s1 → s1 = callS s o → Q (.returned (.tuple #[])) w2) := Lib.hid (fun s1 w2 hst hs => by
    rw [eQ, ← hs]
    exact ⟨rfl, DStep.comp (OnlyP.ofBelow hb1) (fun b hb => .inl hb) hst⟩)
  have HD1 := Lib.hid (h.below hb1)
  have HR1 : Hid (RdN O w1 o.dv o.data) := Lib.hid ⟨hr.1.below hb1, hr.2⟩
  have HB := Lib.hid hb
  have HL := Lib.hid hl
  have HC24 := Lib.hid hcap
  have HCAP : Hid (∀ k, (s.ca k).length ≤ 100000000000000) := Lib.hid (fun k => by have := hcap k; omega)
  subst e1
  clear hb1 hb hl hcap h hr eQ
  obtain ⟨kind, blk, cnt, dv, data⟩ := o
  dsimp only at hk edv hI1 hI2
  subst hk edv
  simp only [OpV.agg]
  go_enter Try.func35, Try.ntmps35
  go_wp2_with fail
  refine (flush_ok O _ d s HD1.out (fun k => HCAP.out k)).mono ?_
  rintro e w2 ⟨he, hst⟩
  obtain ⟨fv, rfl⟩ : ∃ fv, e = .returned fv := ⟨_, he⟩
  clear he
  have HF := Lib.hid (HS.out _ w2 hst HK.out)
  clear HS HD1 HR1
  go_wp2_with fail
  first | exact HF.out | (go_end0; exact HF.out)
set_option maxHeartbeats 2000000 in
set_option maxRecDepth 100000 in
theorem call_6 (O : Nat → Prop) (w : World) (d : Nat) (s : DSt) (o : OpV) (h : DRep O w d s) (hr : RdN O w o.dv o.data) (hI1 : I64 o.blk) (hI2 : I64 o.cnt) (hb : BytesL o.data) (hl : o.data.length ≤ 9223372036854775807) (hcap : ∀ k, ((s.ca k).length + 1) * 24 ≤ 200000000000000) (hk : o.kind = 6) :
    Calls Try.prog 35 #[.pointer (some ⟨d, 0, none⟩), o.agg] w (DoneQ O w d (callS s o)) := by
  have HK : Hid (s = callS s o) := Lib.hid (by unfold callS; rw [hk]; simp)
  obtain ⟨Q, eQ⟩ : ∃ Q, Q = DoneQ O w d (callS s o) := ⟨_, rfl⟩
  rw [← eQ]
  obtain ⟨w1, e1⟩ : ∃ w1, w1 = w.alloc (.cells #[.int .i64 o.kind, .int .i64 o.blk, .int .i64 o.cnt, o.dv] 61) := ⟨_, rfl⟩
  have hb1 : Below w.heap.size w w1 := by rw [e1]; exact (Below.refl _ _).alloc (Nat.le_refl _) _
  obtain ⟨A, cp, edv⟩ := hr.1.slice
  have HS : Hid (∀ s1 w2, DStep O w1 w2 d s1 → s1 = callS s o → Q (.returned (.tuple #[])) w2) := Lib.hid (fun s1 w2 hst hs => by
    rw [eQ, ← hs]
    exact ⟨rfl, DStep.comp (OnlyP.ofBelow hb1) (fun b hb => .inl hb) hst⟩)
  have HD1 := Lib.hid (h.below hb1)
  have HR1 : Hid (RdN O w1 o.dv o.data) := Lib.hid ⟨hr.1.below hb1, hr.2⟩
  have HB := Lib.hid hb
  have HL := Lib.hid hl
  have HC24 := Lib.hid hcap
  have HCAP : Hid (∀ k, (s.ca k).length ≤ 100000000000000) := Lib.hid (fun k => by have := hcap k; omega)
  subst e1
  clear hb1 hb hl hcap h hr eQ
  obtain ⟨kind, blk, cnt, dv, data⟩ := o
  dsimp only at hk edv hI1 hI2
  subst hk edv
  simp only [OpV.agg]
  go_enter Try.func35, Try.ntmps35
  go_wp2_with fail
  refine (cached_ok O _ d s HD1.out).mono ?_
  rintro e w2 ⟨v, rfl, _, _, hb⟩
  have HF := Lib.hid (HS.out _ w2 ⟨OnlyP.ofBelow hb, O, HD1.out.below hb, fun b hb => .inl hb⟩ HK.out)
  clear HS HD1 HR1
  go_wp2_with fail
  first | exact HF.out | (go_end0; exact HF.out)
set_option maxHeartbeats 2000000 in
set_option maxRecDepth 100000 in
theorem call_7 (O : Nat → Prop) (w : World) (d : Nat) (s : DSt) (o : OpV) (h : DRep O w d s) (hr : RdN O w o.dv o.data) (hI1 : I64 o.blk) (hI2 : I64 o.cnt) (hb : BytesL o.data) (hl : o.data.length ≤ 9223372036854775807) (hcap : ∀ k, ((s.ca k).length + 1) * 24 ≤ 200000000000000) (hk : o.kind = 7) :
    Calls Try.prog 35 #[.pointer (some ⟨d, 0, none⟩), o.agg] w (DoneQ O w d (callS s o)) := by
  have HK : Hid (s = callS s o) := Lib.hid (by unfold callS; rw [hk]; simp)
  obtain ⟨Q, eQ⟩ : ∃ Q, Q = DoneQ O w d (callS s o) := ⟨_, rfl⟩
  rw [← eQ]
  obtain ⟨w1, e1⟩ : ∃ w1, w1 = w.alloc (.cells #[.int .i64 o.kind, .int .i64 o.blk, .int .i64 o.cnt, o.dv] 61) := ⟨_, rfl⟩
  have hb1 : Below w.heap.size w w1 := by rw [e1]; exact (Below.refl _ _).alloc (Nat.le_refl _) _
  obtain ⟨A, cp, edv⟩ := hr.1.slice
  have HS : Hid (∀ s1 w2, DStep O w1 w2 d s1 → s1 = callS s o → Q (.returned (.tuple #[])) w2) := Lib.hid (fun s1 w2 hst hs => by
    rw [eQ, ← hs]
    exact ⟨rfl, DStep.comp (OnlyP.ofBelow hb1) (fun b hb => .inl hb) hst⟩)
  have HD1 := Lib.hid (h.below hb1)
  have HR1 : Hid (RdN O w1 o.dv o.data) := Lib.hid ⟨hr.1.below hb1, hr.2⟩
  have HB := Lib.hid hb
  have HL := Lib.hid hl
  have HC24 := Lib.hid hcap
  have HCAP : Hid (∀ k, (s.ca k).length ≤ 100000000000000) := Lib.hid (fun k => by have := hcap k; omega)
  subst e1
  clear hb1 hb hl hcap h hr eQ
  obtain ⟨kind, blk, cnt, dv, data⟩ := o
  dsimp only at hk edv hI1 hI2
  subst hk edv
  simp only [OpV.agg]
  go_enter Try.func35, Try.ntmps35
  go_wp2_with fail
  refine (waiting_ok O _ d s blk hI1 HD1.out).mono ?_
  rintro e w2 ⟨rfl, rfl⟩
  have HF := Lib.hid (HS.out _ _ ⟨OnlyP.refl _ _, O, HD1.out, fun b hb => .inl hb⟩ HK.out)
  clear HS HD1 HR1
  go_wp2_with fail
  first | exact HF.out | (go_end0; exact HF.out)
set_option maxHeartbeats 2000000 in
set_option maxRecDepth 100000 in
theorem call_8 (O : Nat → Prop) (w : World) (d : Nat) (s : DSt) (o : OpV) (h : DRep O w d s) (hr : RdN O w o.dv o.data) (hI1 : I64 o.blk) (hI2 : I64 o.cnt) (hb : BytesL o.data) (hl : o.data.length ≤ 9223372036854775807) (hcap : ∀ k, ((s.ca k).length + 1) * 24 ≤ 200000000000000) (hk : o.kind = 8) :
    Calls Try.prog 35 #[.pointer (some ⟨d, 0, none⟩), o.agg] w (DoneQ O w d (callS s o)) := by
  have HK : Hid (s = callS s o) := Lib.hid (by unfold callS; rw [hk]; simp)
  obtain ⟨Q, eQ⟩ : ∃ Q, Q = DoneQ O w d (callS s o) := ⟨_, rfl⟩
  rw [← eQ]
  obtain ⟨w1, e1⟩ : ∃ w1, w1 = w.alloc (.cells #[.int .i64 o.kind, .int .i64 o.blk, .int .i64 o.cnt, o.dv] 61) := ⟨_, rfl⟩
  have hb1 : Below w.heap.size w w1 := by rw [e1]; exact (Below.refl _ _).alloc (Nat.le_refl _) _
  obtain ⟨A, cp, edv⟩ := hr.1.slice
  have HS : Hid (∀ s1 w2, DStep O w1 w2 d s1 → s1 = callS s o → Q (.returned (.tuple #[])) w2) := Lib.hid (fun s1 w2 hst hs => by
    rw [eQ, ← hs]
    exact ⟨rfl, DStep.comp (OnlyP.ofBelow hb1) (fun b hb => .inl hb) hst⟩)
  have HD1 := Lib.hid (h.below hb1)
  have HR1 : Hid (RdN O w1 o.dv o.data) := Lib.hid ⟨hr.1.below hb1, hr.2⟩
  have HB := Lib.hid hb
  have HL := Lib.hid hl
  have HC24 := Lib.hid hcap
  have HCAP : Hid (∀ k, (s.ca k).length ≤ 100000000000000) := Lib.hid (fun k => by have := hcap k; omega)
  subst e1
  clear hb1 hb hl hcap h hr eQ
  obtain ⟨kind, blk, cnt, dv, data⟩ := o
  dsimp only at hk edv hI1 hI2
  subst hk edv
  simp only [OpV.agg]
  go_enter Try.func35, Try.ntmps35
  go_wp2_with fail
  refine (durable_ok O _ d s blk HD1.out).mono ?_
  rintro e w2 ⟨v, er, rfl, _, _, hon, hdr⟩
  have HF := Lib.hid (HS.out _ w2 ⟨hon, O, hdr, fun b hb => .inl hb⟩ HK.out)
  clear HS HD1 HR1
  go_wp2_with fail
  first | exact HF.out | (go_end0; exact HF.out)
set_option maxHeartbeats 2000000 in
set_option maxRecDepth 100000 in
theorem call_9 (O : Nat → Prop) (w : World) (d : Nat) (s : DSt) (o : OpV) (h : DRep O w d s) (hr : RdN O w o.dv o.data) (hI1 : I64 o.blk) (hI2 : I64 o.cnt) (hb : BytesL o.data) (hl : o.data.length ≤ 9223372036854775807) (hcap : ∀ k, ((s.ca k).length + 1) * 24 ≤ 200000000000000) (hk : o.kind = 9) :
    Calls Try.prog 35 #[.pointer (some ⟨d, 0, none⟩), o.agg] w (DoneQ O w d (callS s o)) := by
  have HK : Hid (s = callS s o) := Lib.hid (by unfold callS; rw [hk]; simp)
  obtain ⟨Q, eQ⟩ : ∃ Q, Q = DoneQ O w d (callS s o) := ⟨_, rfl⟩
  rw [← eQ]
  obtain ⟨w1, e1⟩ : ∃ w1, w1 = w.alloc (.cells #[.int .i64 o.kind, .int .i64 o.blk, .int .i64 o.cnt, o.dv] 61) := ⟨_, rfl⟩
  have hb1 : Below w.heap.size w w1 := by rw [e1]; exact (Below.refl _ _).alloc (Nat.le_refl _) _
  obtain ⟨A, cp, edv⟩ := hr.1.slice
  have HS : Hid (∀ s1 w2, DStep O w1 w2 d s1 → s1 = callS s o → Q (.returned (.tuple #[])) w2) := Lib.hid (fun s1 w2 hst hs => by
    rw [eQ, ← hs]
    exact ⟨rfl, DStep.comp (OnlyP.ofBelow hb1) (fun b hb => .inl hb) hst⟩)
  have HD1 := Lib.hid (h.below hb1)
  have HR1 : Hid (RdN O w1 o.dv o.data) := Lib.hid ⟨hr.1.below hb1, hr.2⟩
  have HB := Lib.hid hb
  have HL := Lib.hid hl
  have HC24 := Lib.hid hcap
  have HCAP : Hid (∀ k, (s.ca k).length ≤ 100000000000000) := Lib.hid (fun k => by have := hcap k; omega)
  subst e1
  clear hb1 hb hl hcap h hr eQ
  obtain ⟨kind, blk, cnt, dv, data⟩ := o
  dsimp only at hk edv hI1 hI2
  subst hk edv
  simp only [OpV.agg]
  go_enter Try.func35, Try.ntmps35
  go_wp2_with fail
  refine (image_ok O _ d s HD1.out).mono ?_
  rintro e w2 ⟨v, rfl, _, hon, hdr⟩
  have HF := Lib.hid (HS.out _ w2 ⟨hon, O, hdr, fun b hb => .inl hb⟩ HK.out)
  clear HS HD1 HR1
  go_wp2_with fail
  first | exact HF.out | (go_end0; exact HF.out)
set_option maxHeartbeats 2000000 in
set_option maxRecDepth 100000 in
theorem call_10 (O : Nat → Prop) (w : World) (d : Nat) (s : DSt) (o : OpV) (h : DRep O w d s) (hr : RdN O w o.dv o.data) (hI1 : I64 o.blk) (hI2 : I64 o.cnt) (hb : BytesL o.data) (hl : o.data.length ≤ 9223372036854775807) (hcap : ∀ k, ((s.ca k).length + 1) * 24 ≤ 200000000000000) (hk : o.kind = 10) :
    Calls Try.prog 35 #[.pointer (some ⟨d, 0, none⟩), o.agg] w (DoneQ O w d (callS s o)) := by
  have HK : Hid (spoilS s o.blk = callS s o) := Lib.hid (by unfold callS; rw [hk]; simp)
  obtain ⟨Q, eQ⟩ : ∃ Q, Q = DoneQ O w d (callS s o) := ⟨_, rfl⟩
  rw [← eQ]
  obtain ⟨w1, e1⟩ : ∃ w1, w1 = w.alloc (.cells #[.int .i64 o.kind, .int .i64 o.blk, .int .i64 o.cnt, o.dv] 61) := ⟨_, rfl⟩
  have hb1 : Below w.heap.size w w1 := by rw [e1]; exact (Below.refl _ _).alloc (Nat.le_refl _) _
  obtain ⟨A, cp, edv⟩ := hr.1.slice
  have HS : Hid (∀ s1 w2, DStep O w1 w2 d s1 → s1 = callS s o → Q (.returned (.tuple #[])) w2) := Lib.hid (fun s1 w2 hst hs => by
    rw [eQ, ← hs]
    exact ⟨rfl, DStep.comp (OnlyP.ofBelow hb1) (fun b hb => .inl hb) hst⟩)
  have HD1 := Lib.hid (h.below hb1)
  have HR1 : Hid (RdN O w1 o.dv o.data) := Lib.hid ⟨hr.1.below hb1, hr.2⟩
  have HB := Lib.hid hb
  have HL := Lib.hid hl
  have HC24 := Lib.hid hcap
  have HCAP : Hid (∀ k, (s.ca k).length ≤ 100000000000000) := Lib.hid (fun k => by have := hcap k; omega)
  subst e1
  clear hb1 hb hl hcap h hr eQ
  obtain ⟨kind, blk, cnt, dv, data⟩ := o
  dsimp only at hk edv hI1 hI2
  subst hk edv
  simp only [OpV.agg]
  go_enter Try.func35, Try.ntmps35
  go_wp2_with fail
  refine (spoil_ok O _ d s blk HD1.out).mono ?_
  rintro e w2 ⟨er, rfl, _, hst⟩
  have HF := Lib.hid (HS.out _ w2 hst HK.out)
  clear HS HD1 HR1
  go_wp2_with fail
  first | exact HF.out | (go_end0; exact HF.out)
set_option maxHeartbeats 2000000 in
set_option maxRecDepth 100000 in
theorem call_11 (O : Nat → Prop) (w : World) (d : Nat) (s : DSt) (o : OpV) (h : DRep O w d s) (hr : RdN O w o.dv o.data) (hI1 : I64 o.blk) (hI2 : I64 o.cnt) (hb : BytesL o.data) (hl : o.data.length ≤ 9223372036854775807) (hcap : ∀ k, ((s.ca k).length + 1) * 24 ≤ 200000000000000) (hk : o.kind = 11) :
    Calls Try.prog 35 #[.pointer (some ⟨d, 0, none⟩), o.agg] w (DoneQ O w d (callS s o)) := by
  have HK : Hid (fuseS s o.cnt = callS s o) := Lib.hid (by unfold callS; rw [hk]; simp)
  obtain ⟨Q, eQ⟩ : ∃ Q, Q = DoneQ O w d (callS s o) := ⟨_, rfl⟩
  rw [← eQ]
  obtain ⟨w1, e1⟩ : ∃ w1, w1 = w.alloc (.cells #[.int .i64 o.kind, .int .i64 o.blk, .int .i64 o.cnt, o.dv] 61) := ⟨_, rfl⟩
  have hb1 : Below w.heap.size w w1 := by rw [e1]; exact (Below.refl _ _).alloc (Nat.le_refl _) _
  obtain ⟨A, cp, edv⟩ := hr.1.slice
  have HS : Hid (∀ s1 w2, DStep O w1 w2 d s1 → s1 = callS s o → Q (.returned (.tuple #[])) w2) := Lib.hid (fun s1 w2 hst hs => by
    rw [eQ, ← hs]
    exact ⟨rfl, DStep.comp (OnlyP.ofBelow hb1) (fun b hb => .inl hb) hst⟩)
  have HD1 := Lib.hid (h.below hb1)
  have HR1 : Hid (RdN O w1 o.dv o.data) := Lib.hid ⟨hr.1.below hb1, hr.2⟩
  have HB := Lib.hid hb
  have HL := Lib.hid hl
  have HC24 := Lib.hid hcap
  have HCAP : Hid (∀ k, (s.ca k).length ≤ 100000000000000) := Lib.hid (fun k => by have := hcap k; omega)
  subst e1
  clear hb1 hb hl hcap h hr eQ
  obtain ⟨kind, blk, cnt, dv, data⟩ := o
  dsimp only at hk edv hI1 hI2
  subst hk edv
  simp only [OpV.agg]
  go_enter Try.func35, Try.ntmps35
  go_wp2_with fail
  refine (fuse_ok O _ d s cnt HD1.out (i64_lt hI2)).mono ?_
  rintro e w2 ⟨rfl, hst⟩
  have HF := Lib.hid (HS.out _ w2 hst HK.out)
  clear HS HD1 HR1
  go_wp2_with fail
  first | exact HF.out | (go_end0; exact HF.out)
set_option maxHeartbeats 2000000 in
set_option maxRecDepth 100000 in
theorem call_12 (O : Nat → Prop) (w : World) (d : Nat) (s : DSt) (o : OpV) (h : DRep O w d s) (hr : RdN O w o.dv o.data) (hI1 : I64 o.blk) (hI2 : I64 o.cnt) (hb : BytesL o.data) (hl : o.data.length ≤ 9223372036854775807) (hcap : ∀ k, ((s.ca k).length + 1) * 24 ≤ 200000000000000) (hk : o.kind = 12) :
    Calls Try.prog 35 #[.pointer (some ⟨d, 0, none⟩), o.agg] w (DoneQ O w d (callS s o)) := by
  have HK : Hid (s = callS s o) := Lib.hid (by unfold callS; rw [hk]; simp)
  obtain ⟨Q, eQ⟩ : ∃ Q, Q = DoneQ O w d (callS s o) := ⟨_, rfl⟩
  rw [← eQ]
  obtain ⟨w1, e1⟩ : ∃ w1, w1 = w.alloc (.cells #[.int .i64 o.kind, .int .i64 o.blk, .int .i64 o.cnt, o.dv] 61) := ⟨_, rfl⟩
  have hb1 : Below w.heap.size w w1 := by rw [e1]; exact (Below.refl _ _).alloc (Nat.le_refl _) _
  obtain ⟨A, cp, edv⟩ := hr.1.slice
  have HS : Hid (∀ s1 w2, DStep O w1 w2 d s1 → s1 = callS s o → Q (.returned (.tuple #[])) w2) := Lib.hid (fun s1 w2 hst hs => by
    rw [eQ, ← hs]
    exact ⟨rfl, DStep.comp (OnlyP.ofBelow hb1) (fun b hb => .inl hb) hst⟩)
  have HD1 := Lib.hid (h.below hb1)
  have HR1 : Hid (RdN O w1 o.dv o.data) := Lib.hid ⟨hr.1.below hb1, hr.2⟩
  have HB := Lib.hid hb
  have HL := Lib.hid hl
  have HC24 := Lib.hid hcap
  have HCAP : Hid (∀ k, (s.ca k).length ≤ 100000000000000) := Lib.hid (fun k => by have := hcap k; omega)
  subst e1
  clear hb1 hb hl hcap h hr eQ
  obtain ⟨kind, blk, cnt, dv, data⟩ := o
  dsimp only at hk edv hI1 hI2
  subst hk edv
  simp only [OpV.agg]
  go_enter Try.func35, Try.ntmps35
  go_wp2_with fail
  refine (let ⟨m, c, hb⟩ := blkD HD1.out; on_ok _ d m c s hb).mono ?_
  rintro e w2 ⟨rfl, rfl⟩
  have HF := Lib.hid (HS.out _ _ ⟨OnlyP.refl _ _, O, HD1.out, fun b hb => .inl hb⟩ HK.out)
  clear HS HD1 HR1
  go_wp2_with fail
  first | exact HF.out | (go_end0; exact HF.out)
set_option maxHeartbeats 2000000 in
set_option maxRecDepth 100000 in
theorem call_13 (O : Nat → Prop) (w : World) (d : Nat) (s : DSt) (o : OpV) (h : DRep O w d s) (hr : RdN O w o.dv o.data) (hI1 : I64 o.blk) (hI2 : I64 o.cnt) (hb : BytesL o.data) (hl : o.data.length ≤ 9223372036854775807) (hcap : ∀ k, ((s.ca k).length + 1) * 24 ≤ 200000000000000) (hk : o.kind = 13) :
    Calls Try.prog 35 #[.pointer (some ⟨d, 0, none⟩), o.agg] w (DoneQ O w d (callS s o)) := by
  have HK : Hid (crashS s o.data = callS s o) := Lib.hid (by unfold callS; rw [hk]; simp)
  obtain ⟨Q, eQ⟩ : ∃ Q, Q = DoneQ O w d (callS s o) := ⟨_, rfl⟩
  rw [← eQ]
  obtain ⟨w1, e1⟩ : ∃ w1, w1 = w.alloc (.cells #[.int .i64 o.kind, .int .i64 o.blk, .int .i64 o.cnt, o.dv] 61) := ⟨_, rfl⟩
  have hb1 : Below w.heap.size w w1 := by rw [e1]; exact (Below.refl _ _).alloc (Nat.le_refl _) _
  obtain ⟨A, cp, edv⟩ := hr.1.slice
  have HS : Hid (∀ s1 w2, DStep O w1 w2 d s1 → s1 = callS s o → Q (.returned (.tuple #[])) w2) := Lib.hid (fun s1 w2 hst hs => by
    rw [eQ, ← hs]
    exact ⟨rfl, DStep.comp (OnlyP.ofBelow hb1) (fun b hb => .inl hb) hst⟩)
  have HD1 := Lib.hid (h.below hb1)
  have HR1 : Hid (RdN O w1 o.dv o.data) := Lib.hid ⟨hr.1.below hb1, hr.2⟩
  have HB := Lib.hid hb
  have HL := Lib.hid hl
  have HC24 := Lib.hid hcap
  have HCAP : Hid (∀ k, (s.ca k).length ≤ 100000000000000) := Lib.hid (fun k => by have := hcap k; omega)
  subst e1
  clear hb1 hb hl hcap h hr eQ
  obtain ⟨kind, blk, cnt, dv, data⟩ := o
  dsimp only at hk edv hI1 hI2
  subst hk edv
  simp only [OpV.agg]
  go_enter Try.func35, Try.ntmps35
  go_wp2_with fail
  refine (crash_ok O _ d s _ data HD1.out HR1.out HB.out HL.out (fun k => HCAP.out k)).mono ?_
  rintro e w2 ⟨rfl, hst⟩
  have HF := Lib.hid (HS.out _ w2 hst HK.out)
  clear HS HD1 HR1
  go_wp2_with fail
  first | exact HF.out | (go_end0; exact HF.out)
set_option maxHeartbeats 2000000 in
set_option maxRecDepth 100000 in
theorem call_14 (O : Nat → Prop) (w : World) (d : Nat) (s : DSt) (o : OpV) (h : DRep O w d s) (hr : RdN O w o.dv o.data) (hI1 : I64 o.blk) (hI2 : I64 o.cnt) (hb : BytesL o.data) (hl : o.data.length ≤ 9223372036854775807) (hcap : ∀ k, ((s.ca k).length + 1) * 24 ≤ 200000000000000) (hk : o.kind = 14) :
    Calls Try.prog 35 #[.pointer (some ⟨d, 0, none⟩), o.agg] w (DoneQ O w d (callS s o)) := by
  have HK : Hid (s = callS s o) := Lib.hid (by unfold callS; rw [hk]; simp)
  obtain ⟨Q, eQ⟩ : ∃ Q, Q = DoneQ O w d (callS s o) := ⟨_, rfl⟩
  rw [← eQ]
  obtain ⟨w1, e1⟩ : ∃ w1, w1 = w.alloc (.cells #[.int .i64 o.kind, .int .i64 o.blk, .int .i64 o.cnt, o.dv] 61) := ⟨_, rfl⟩
  have hb1 : Below w.heap.size w w1 := by rw [e1]; exact (Below.refl _ _).alloc (Nat.le_refl _) _
  obtain ⟨A, cp, edv⟩ := hr.1.slice
  have HS : Hid (∀ s1 w2, DStep O w1 w2 d s1 → s1 = callS s o → Q (.returned (.tuple #[])) w2) := Lib.hid (fun s1 w2 hst hs => by
    rw [eQ, ← hs]
    exact ⟨rfl, DStep.comp (OnlyP.ofBelow hb1) (fun b hb => .inl hb) hst⟩)
  have HD1 := Lib.hid (h.below hb1)
  have HR1 : Hid (RdN O w1 o.dv o.data) := Lib.hid ⟨hr.1.below hb1, hr.2⟩
  have HB := Lib.hid hb
  have HL := Lib.hid hl
  have HC24 := Lib.hid hcap
  have HCAP : Hid (∀ k, (s.ca k).length ≤ 100000000000000) := Lib.hid (fun k => by have := hcap k; omega)
  subst e1
  clear hb1 hb hl hcap h hr eQ
  obtain ⟨kind, blk, cnt, dv, data⟩ := o
  dsimp only at hk edv hI1 hI2
  subst hk edv
  simp only [OpV.agg]
  go_enter Try.func35, Try.ntmps35
  go_wp2_with fail
  refine (let ⟨m, c, hb⟩ := blkD HD1.out; counts_ok _ d m c s hb).mono ?_
  rintro e w2 ⟨rfl, hb⟩
  have HF := Lib.hid (HS.out _ w2 ⟨OnlyP.ofBelow hb, O, HD1.out.below hb, fun b hb => .inl hb⟩ HK.out)
  clear HS HD1 HR1
  go_wp2_with fail
  first | exact HF.out | (go_end0; exact HF.out)
set_option maxHeartbeats 2000000 in
set_option maxRecDepth 100000 in
theorem call_no (O : Nat → Prop) (w : World) (d : Nat) (s : DSt) (o : OpV) (h : DRep O w d s) (hr : RdN O w o.dv o.data) (hI1 : I64 o.blk) (hI2 : I64 o.cnt) (hb : BytesL o.data) (hl : o.data.length ≤ 9223372036854775807) (hcap : ∀ k, ((s.ca k).length + 1) * 24 ≤ 200000000000000) (hk : ¬ (1 ≤ o.kind ∧ o.kind ≤ 14)) :
    Calls Try.prog 35 #[.pointer (some ⟨d, 0, none⟩), o.agg] w (DoneQ O w d (callS s o)) := by
  have HK : Hid (s = callS s o) := Lib.hid (by unfold callS; repeat rw [if_neg (by omega)])
  obtain ⟨Q, eQ⟩ : ∃ Q, Q = DoneQ O w d (callS s o) := ⟨_, rfl⟩
  rw [← eQ]
  obtain ⟨w1, e1⟩ : ∃ w1, w1 = w.alloc (.cells #[.int .i64 o.kind, .int .i64 o.blk, .int .i64 o.cnt, o.dv] 61) := ⟨_, rfl⟩
  have hb1 : Below w.heap.size w w1 := by rw [e1]; exact (Below.refl _ _).alloc (Nat.le_refl _) _
  obtain ⟨A, cp, edv⟩ := hr.1.slice
  have HS : Hid (∀ s1 w2, DStep O w1 w2 d s1 → s1 = callS s o → Q (.returned (.tuple #[])) w2) := Lib.hid (fun s1 w2 hst hs => by
    rw [eQ, ← hs]
    exact ⟨rfl, DStep.comp (OnlyP.ofBelow hb1) (fun b hb => .inl hb) hst⟩)
  have HD1 := Lib.hid (h.below hb1)
  have HR1 : Hid (RdN O w1 o.dv o.data) := Lib.hid ⟨hr.1.below hb1, hr.2⟩
  have HB := Lib.hid hb
  have HL := Lib.hid hl
  have HC24 := Lib.hid hcap
  have HCAP : Hid (∀ k, (s.ca k).length ≤ 100000000000000) := Lib.hid (fun k => by have := hcap k; omega)
  subst e1
  clear hb1 hb hl hcap h hr eQ
  obtain ⟨kind, blk, cnt, dv, data⟩ := o
  dsimp only at hk edv hI1 hI2
  subst edv
  simp only [OpV.agg]
  have n1 : (kind == 1) = false := by simp; omega
  have n2 : (kind == 2) = false := by simp; omega
  have n3 : (kind == 3) = false := by simp; omega
  have n4 : (kind == 4) = false := by simp; omega
  have n5 : (kind == 5) = false := by simp; omega
  have n6 : (kind == 6) = false := by simp; omega
  have n7 : (kind == 7) = false := by simp; omega
  have n8 : (kind == 8) = false := by simp; omega
  have n9 : (kind == 9) = false := by simp; omega
  have n10 : (kind == 10) = false := by simp; omega
  have n11 : (kind == 11) = false := by simp; omega
  have n12 : (kind == 12) = false := by simp; omega
  have n13 : (kind == 13) = false := by simp; omega
  have n14 : (kind == 14) = false := by simp; omega
  clear hk
  go_enter Try.func35, Try.ntmps35
  go_wp2_with fail
  have HF := Lib.hid (HS.out _ _ ⟨OnlyP.refl _ _, O, HD1.out, fun b hb => .inl hb⟩ HK.out)
  first | exact HF.out | (go_end0; exact HF.out)
theorem call_ok (O : Nat → Prop) (w : World) (d : Nat) (s : DSt) (o : OpV) (h : DRep O w d s) (hr : RdN O w o.dv o.data) (hI1 : I64 o.blk) (hI2 : I64 o.cnt) (hb : BytesL o.data) (hl : o.data.length ≤ 9223372036854775807) (hcap : ∀ k, ((s.ca k).length + 1) * 24 ≤ 200000000000000) :
    Calls Try.prog 35 #[.pointer (some ⟨d, 0, none⟩), o.agg] w (DoneQ O w d (callS s o)) := by
  by_cases hk : 1 ≤ o.kind ∧ o.kind ≤ 14
  · have : o.kind = 1 ∨ o.kind = 2 ∨ o.kind = 3 ∨ o.kind = 4 ∨ o.kind = 5 ∨ o.kind = 6 ∨ o.kind = 7 ∨ o.kind = 8 ∨ o.kind = 9 ∨ o.kind = 10 ∨ o.kind = 11 ∨ o.kind = 12 ∨ o.kind = 13 ∨ o.kind = 14 := by omega
    rcases this with hk | hk | hk | hk | hk | hk | hk | hk | hk | hk | hk | hk | hk | hk
    · exact call_1 O w d s o h hr hI1 hI2 hb hl hcap hk
    · exact call_2 O w d s o h hr hI1 hI2 hb hl hcap hk
    · exact call_3 O w d s o h hr hI1 hI2 hb hl hcap hk
    · exact call_4 O w d s o h hr hI1 hI2 hb hl hcap hk
    · exact call_5 O w d s o h hr hI1 hI2 hb hl hcap hk
    · exact call_6 O w d s o h hr hI1 hI2 hb hl hcap hk
    · exact call_7 O w d s o h hr hI1 hI2 hb hl hcap hk
    · exact call_8 O w d s o h hr hI1 hI2 hb hl hcap hk
    · exact call_9 O w d s o h hr hI1 hI2 hb hl hcap hk
    · exact call_10 O w d s o h hr hI1 hI2 hb hl hcap hk
    · exact call_11 O w d s o h hr hI1 hI2 hb hl hcap hk
    · exact call_12 O w d s o h hr hI1 hI2 hb hl hcap hk
    · exact call_13 O w d s o h hr hI1 hI2 hb hl hcap hk
    · exact call_14 O w d s o h hr hI1 hI2 hb hl hcap hk
  · exact call_no O w d s o h hr hI1 hI2 hb hl hcap hk
end Go.Proofs.Ytigfcoibbmndpaa

