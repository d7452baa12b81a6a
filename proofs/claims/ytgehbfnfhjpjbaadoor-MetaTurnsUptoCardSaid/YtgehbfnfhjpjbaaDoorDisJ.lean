/- The disk's calls: Read. -/
import Derived.Test.YtgehbfnfhjpjbaaDoorDisI
import Derived.RegionTactic
import Derived.ChangeAlike
import Derived.Outline
namespace Go.Proofs.YtgehbfnfhjpjbaaDoor
open Go.RowKit
open Go.ChangeMaps
set_option linter.unusedVariables false
set_option linter.unusedSimpArgs false
open Classical in
noncomputable def readE (s : DSt) (j : Int) : Int := if ¬ s.inr j then 2 else if s.off = true then 22 else if s.ca j.toNat ≠ [] then 0 else if s.sp j.toNat = true then 21 else 0
open Classical in
noncomputable def readX (s : DSt) (j : Int) : List Int := if readE s j ≠ 0 then [] else if s.ca j.toNat ≠ [] then (s.ca j.toNat).getD ((s.ca j.toNat).length - 1) [] else s.dur j.toNat
noncomputable def readS (s : DSt) (j : Int) : DSt := if readE s j = 0 then { s with c0 := IntKind.i64.wrap (s.c0 + 1) } else s
def ReadQ (O : Nat → Prop) (w : World) (d : Nat) (s : DSt) (xs : List Int) (e0 j : Int) (e : Ending) (w' : World) : Prop :=
  ∃ v er, e = .returned (.tuple #[v, er]) ∧ AnsP w.heap.size w' v xs ∧ AnsE w.heap.size w' er e0 j ∧ OnlyP O w w' ∧ DRep O w' d s
theorem ref_read {O : Nat → Prop} {w w1 w2 : World} {d : Nat} {s : DSt} {e0 j : Int} {v : Value} (hq : RefQ w1 j e0 (.returned v) w2) (h0 : e0 ≠ 0) (ho : OnlyP O w w1) (h : DRep O w1 d s) : ReadQ O w d s [] e0 j (.returned (.tuple #[.slice none 0 0, v])) w2 := by
  obtain ⟨b, hv, hb, hblk, hbel⟩ := hq
  cases hv
  exact ⟨_, _, rfl, .inl ⟨rfl, rfl⟩, .inr ⟨b, rfl, Nat.le_trans ho.size hb, h0, hblk⟩, ho.trans (OnlyP.ofBelow hbel : OnlyP O w1 w2) (fun k hk => .inl hk), h.below hbel⟩
set_option maxHeartbeats 2000000 in
set_option maxRecDepth 100000 in
theorem read_no (O : Nat → Prop) (w : World) (d : Nat) (s : DSt) (j : Int) (h : DRep O w d s) (hj : ¬ s.inr j) :
    Calls Tryd.prog 11 #[.pointer (some ⟨d, 0, none⟩), .int .i64 j] w (ReadQ O w d s [] 2 j) := by
  obtain ⟨m, c, hb⟩ := blkD h
  have HEX := Lib.hid (exists_no w d m c s j hb hj)
  have hfin : ∀ v w2, RefQ w j 2 (.returned v) w2 → ReadQ O w d s [] 2 j (.returned (.tuple #[.slice none 0 0, v])) w2 := fun v w2 hq => ref_read hq (by decide) (OnlyP.refl _ _) h
  have HF := Lib.hid hfin
  clear hfin h hj hb
  go_enter Tryd.func11, Tryd.ntmps11
  go_wp2_with (go_at_call 22; with_reducible refine HEX.out.mono ?_; rintro e w' ⟨rfl, rfl⟩)
  refine (refuse_ok _ _ _).mono ?_
  intro e w2 hq
  have hq0 := hq
  obtain ⟨b, rfl, _⟩ := hq0
  have HQ2 := Lib.hid (HF.out _ _ hq)
  clear hq
  go_wp2_with fail
  first | exact HQ2.out | (go_ret2; exact HQ2.out)
set_option maxHeartbeats 2000000 in
set_option maxRecDepth 100000 in
theorem read_off (O : Nat → Prop) (w : World) (d : Nat) (s : DSt) (j : Int) (h : DRep O w d s) (hj : s.inr j) (ho : s.off = true) :
    Calls Tryd.prog 11 #[.pointer (some ⟨d, 0, none⟩), .int .i64 j] w (ReadQ O w d s [] 22 j) := by
  obtain ⟨m, c, hb⟩ := blkD h
  have HEX := Lib.hid (exists_yes w d m c s j hb hj)
  have c4 : w.cell? ⟨d, 4, none⟩ = some (.bool s.off) := hb.cell 4
  rw [ho] at c4
  have hfin : ∀ v w2, RefQ w j 22 (.returned v) w2 → ReadQ O w d s [] 22 j (.returned (.tuple #[.slice none 0 0, v])) w2 := fun v w2 hq => ref_read hq (by decide) (OnlyP.refl _ _) h
  have HF := Lib.hid hfin
  clear hfin h hj hb ho
  go_enter Tryd.func11, Tryd.ntmps11
  go_wp2_with (go_at_call 22; with_reducible refine HEX.out.mono ?_; rintro e w' ⟨rfl, rfl⟩)
  refine (refuse_ok _ _ _).mono ?_
  intro e w2 hq
  have hq0 := hq
  obtain ⟨b, rfl, _⟩ := hq0
  have HQ2 := Lib.hid (HF.out _ _ hq)
  clear hq
  go_wp2_with fail
  first | exact HQ2.out | (go_ret2; exact HQ2.out)
theorem nil_clook (a : Addr) (w : World) : (method 225 51 (.pointer (some a)) "replica/disk.look").run Tryd.prog w = .ok (55, .pointer (some a)) w := by kernel_rfl
theorem nil_mlook (a : Addr) (w : World) : (method 225 50 (.pointer (some a)) "replica/disk.look").run Tryd.prog w = .ok (53, .pointer (some a)) w := by kernel_rfl
/-- What a read leaves: its count, the answer's bytes. -/
theorem read_end {O : Nat → Prop} {w wA w2 : World} {d m c B ms mc : Nat} {F : Int → Option Value} {G : Nat → Prop} {s : DSt} {j : Int} {xs : List Int} {e : Ending} {y : Int} (h : DRepX w d m c B ms mc F G s) (hO : ∀ b, ownD d m c B ms mc G b → O b) (hl : ∀ b, O b → b < w.heap.size) (hA : Below w.heap.size w wA) (ey : y = IntKind.i64.wrap (s.c0 + 1))
    (hq : CpQ (wA.setCell ⟨d, 7, none⟩ (.int .i64 y)) xs e w2) : ∃ v, e = .returned v ∧ ReadQ O w d { s with c0 := IntKind.i64.wrap (s.c0 + 1) } xs 0 j (.returned (.tuple #[v, .nilIface])) w2 := by
  obtain ⟨rfl, hb2, hrow⟩ := hq
  rw [size_setCell] at hb2 hrow
  have hxA := h.keep (w1 := wA) (fun b hb => hA.block b (hl b (hO b hb))) hA.size
  have hone : OneD wA (wA.setCell ⟨d, 7, none⟩ (.int .i64 y)) d := (OneD.refl _ _).set _ _
  have hx2 := hone.cellsX hxA (s1 := { s with c0 := IntKind.i64.wrap (s.c0 + 1) }) (by have := hxA.blk.set 7 (.int .i64 y); rw [ey] at this ⊢; exact this) ⟨h.wf.nb1, h.wf.nb2, h.wf.sz0, h.wf.sz1, h.wf.dl, h.wf.cl, h.wf.cn, h.wf.f0, h.wf.f1⟩ rfl rfl rfl rfl rfl
  have hsz : (wA.setCell ⟨d, 7, none⟩ (.int .i64 y)).heap.size = wA.heap.size := size_setCell _ _ _
  have hx3 := hx2.keep (w1 := w2) (fun b hb => hb2.block b (by have := hl b (hO b hb); have := hA.size; omega)) hb2.size
  refine ⟨_, rfl, _, _, rfl, .inr ⟨_, by rw [hsz], hA.size, hrow⟩, .inl ⟨rfl, rfl⟩, ?_, ⟨m, c, B, ms, mc, F, G, hx3, hO, fun b hb => ?_⟩⟩
  · refine OnlyP.trans (w1 := wA.setCell ⟨d, 7, none⟩ (.int .i64 y)) (O1 := O) ((OnlyP.ofBelow hA).set (.inl (hO d (.inl rfl))) _) ?_ (fun k hk => .inl hk)
    exact OnlyP.ofBelow (by rw [hsz]; exact hb2)
  · have := hl b hb; have := hA.size; have := hb2.size; rw [hsz] at this; omega
set_option maxHeartbeats 2000000 in
set_option maxRecDepth 100000 in
theorem read_cac (O : Nat → Prop) (w : World) (d : Nat) (s : DSt) (k : Nat) (h : DRep O w d s) (hj : s.inr k) (ho : s.off = false) (hc : s.ca k ≠ []) (hcap : (s.ca k).length ≤ 100000000000000) :
    Calls Tryd.prog 11 #[.pointer (some ⟨d, 0, none⟩), .int .i64 k] w (ReadQ O w d { s with c0 := IntKind.i64.wrap (s.c0 + 1) } ((s.ca k).getD ((s.ca k).length - 1) []) 0 k) := by
  obtain ⟨m, c, B, ms, mc, F, G, hx, hO, hl⟩ := h
  obtain ⟨Q, eQ⟩ : ∃ Q, Q = ReadQ O w d { s with c0 := IntKind.i64.wrap (s.c0 + 1) } ((s.ca k).getD ((s.ca k).length - 1) []) 0 k := ⟨_, rfl⟩
  rw [← eQ]
  have EQ := Lib.hid eQ
  have HEX := Lib.hid (exists_yes w d m c s k hx.blk hj)
  have c4 : w.cell? ⟨d, 4, none⟩ = some (.bool s.off) := hx.blk.cell 4
  rw [ho] at c4
  have c2 : w.cell? ⟨d, 2, none⟩ = some (.pointer (some ⟨m, 0, none⟩)) := hx.blk.cell 2
  have c3 : w.cell? ⟨d, 3, none⟩ = some (.pointer (some ⟨c, 0, none⟩)) := hx.blk.cell 3
  have c7 : w.cell? ⟨d, 7, none⟩ = some (.int .i64 s.c0) := hx.blk.cell 7
  have f7 := hx.blk.free 7
  have hdl := hx.blk.lt
  have hm1 := nil_clook ⟨c, 0, none⟩
  obtain ⟨y, ey⟩ : ∃ y, y = IntKind.i64.wrap (s.c0 + 1) := ⟨_, rfl⟩
  have my : IntKind.i64.wrap (s.c0 + 1) = y := ey.symm
  obtain ⟨wA, ewA⟩ : ∃ wA, wA = (w.alloc (.cells #[.iface 51 (.pointer (some ⟨c, 0, none⟩)), .iface 50 (.pointer (some ⟨m, 0, none⟩))] 78)).drew := ⟨_, rfl⟩
  have hA : Below w.heap.size w wA := by rw [ewA]; exact below_drewN ((Below.refl _ _).alloc (Nat.le_refl _) _) 1
  have hxA := hx.keep (w1 := wA) (fun b hb => hA.block b (hl b (hO b hb))) hA.size
  obtain ⟨v, hF⟩ : ∃ v, F k = some v := by
    cases hF : F k with
    | none => exact absurd (hx.car.no k hF) hc
    | some v => exact ⟨v, rfl⟩
  obtain ⟨_, _, g, cap, vs, hv, hn0, _, hown, hls⟩ := hxA.car.yes k v hF
  rw [show ((k : Int)).toNat = k by omega] at hv hn0 hown hls
  subst hv
  obtain ⟨hh, hh1, _, hh3⟩ := hls ((s.ca k).length - 1) (by omega)
  obtain ⟨g', cap', e', _, _, _, _, hcells⟩ := own_cells hown hn0
  simp only [Value.slice.injEq, Option.some.injEq, Addr.mk.injEq] at e'
  obtain ⟨⟨rfl, _⟩, _⟩ := e'
  have hlk := clook_some wA c mc k g (s.ca k).length cap F _ hxA.cac (by have := hj.2; have := hx.wf.nb2; omega) hF hn0 hcap ((hcells _ (by omega)).trans hh1)
  have hlen : ((s.ca k).getD ((s.ca k).length - 1) []).length = s.sz := by
    refine hx.wf.cl k _ ?_
    rw [List.getD_eq_getElem?_getD, List.getElem?_eq_getElem (by omega)]
    exact List.getElem_mem _
  obtain ⟨xs, exs⟩ : ∃ xs, xs = (s.ca k).getD ((s.ca k).length - 1) [] := ⟨_, rfl⟩
  rw [← exs] at hlen hh3
  have hne : hh ≠ d := hh3.ne_blk hxA.blk (by decide)
  have hrd : Rd .u8 (wA.setCell ⟨d, 7, none⟩ (.int .i64 y)) (.slice (some ⟨hh, 0, none⟩) s.sz s.sz) xs := by
    have := (RowA.far hh3 (p := ⟨d, 7, none⟩) hne (.int .i64 y)).rd xs s.sz (by omega) (by omega) (fun i hi => rfl)
    rw [hlen] at this; exact this
  have hfr := fresh_ok (.slice (some ⟨hh, 0, none⟩) s.sz s.sz) xs (wA.setCell ⟨d, 7, none⟩ (.int .i64 y)) hrd (by have := hx.wf.sz1; omega)
  have HLK := Lib.hid hlk
  have HFR := Lib.hid hfr
  have HX := Lib.hid hx
  have HA := Lib.hid hA
  have EY := Lib.hid ey
  have EWA := Lib.hid ewA
  have EXS := Lib.hid exs
  have hfin : ∀ e w2, CpQ (wA.setCell ⟨d, 7, none⟩ (.int .i64 y)) xs e w2 → ∃ v, e = .returned v ∧ Q (.returned (.tuple #[v, .nilIface])) w2 := fun e w2 hq => by
    rw [EQ.out, ← exs]
    exact read_end HX.out hO hl HA.out ey hq
  have HF := Lib.hid hfin
  have a7 : wA.cell? ⟨d, 7, none⟩ = some (.int .i64 s.c0) := hxA.blk.cell 7
  have b7 := hxA.blk.free 7
  clear hx hj ho hlk hfr hrd hxA hA ey ewA hF hown hls hh1 hh3 hcells hlen exs hfin eQ hc hn0 hl hO hcap
  go_enter Tryd.func11, Tryd.ntmps11
  go_wp2_with (go_at_call 22; with_reducible refine HEX.out.mono ?_; rintro e w' ⟨rfl, rfl⟩)
  go_region
  go_wp2_with fail
  refine wp_loop_rounds 2 ?_
  rw [rounds_succ]
  go_wp2_with fail
  rw [← EWA.out]
  refine HLK.out.mono ?_
  rintro e w1 ⟨rfl, rfl⟩
  go_wp2_with fail
  refine HFR.out.mono ?_
  intro e w2 hq
  obtain ⟨v, rfl, hQ⟩ := HF.out e w2 hq
  have HQ := Lib.hid hQ
  clear hq hQ
  go_wp2_with fail
  first | exact HQ.out | (go_ret2; exact HQ.out)
theorem durF_at (s : DSt) (k i : Nat) (h0 : 0 < s.sz) (hi : i < s.sz) : durF s (k * s.sz + i) = (s.dur k).getD i 0 := by
  unfold durF
  have h1 : (k * s.sz + i) / s.sz = k := by rw [Nat.mul_comm, Nat.mul_add_div h0, Nat.div_eq_of_lt hi, Nat.add_zero]
  have h2 : (k * s.sz + i) % s.sz = i := by rw [Nat.mul_comm, Nat.mul_add_mod, Nat.mod_eq_of_lt hi]
  rw [h1, h2]
theorem DRepX.noF {w : World} {d m c B ms mc k : Nat} {F : Int → Option Value} {G : Nat → Prop} {s : DSt} (h : DRepX w d m c B ms mc F G s) (hc : s.ca k = []) : F k = none := by
  cases hF : F k with
  | none => rfl
  | some v =>
    obtain ⟨_, _, g, cap, vs, _, h0, _⟩ := h.car.yes k v hF
    rw [show ((k : Int)).toNat = k by omega, hc] at h0
    simp at h0
theorem DRepX.durRd {w : World} {d m c B ms mc k : Nat} {F : Int → Option Value} {G : Nat → Prop} {s : DSt} (h : DRepX w d m c B ms mc F G s) (hk : k < s.nb) : Rd .u8 w (.slice (some ⟨B, k * s.sz, none⟩) s.sz (s.nb * s.sz - k * s.sz)) (s.dur k) := by
  have hl := h.wf.dl k hk
  have h0 := h.wf.sz0
  have hfit : k * s.sz + s.sz ≤ s.nb * s.sz := by rw [← Nat.succ_mul]; exact Nat.mul_le_mul_right s.sz hk
  refine .inr ⟨B, k * s.sz, _, by rw [hl], by omega, by omega, h.med.row.lt, fun i hi => ?_⟩
  rw [h.med.row.cell _ (by omega), durF_at s k i h0 (by omega)]
set_option maxHeartbeats 2000000 in
set_option maxRecDepth 100000 in
theorem read_med (O : Nat → Prop) (w : World) (d : Nat) (s : DSt) (k : Nat) (h : DRep O w d s) (hj : s.inr k) (ho : s.off = false) (hc : s.ca k = []) (hs : s.sp k = false) :
    Calls Tryd.prog 11 #[.pointer (some ⟨d, 0, none⟩), .int .i64 k] w (ReadQ O w d { s with c0 := IntKind.i64.wrap (s.c0 + 1) } (s.dur k) 0 k) := by
  obtain ⟨m, c, B, ms, mc, F, G, hx, hO, hl⟩ := h
  obtain ⟨Q, eQ⟩ : ∃ Q, Q = ReadQ O w d { s with c0 := IntKind.i64.wrap (s.c0 + 1) } (s.dur k) 0 k := ⟨_, rfl⟩
  rw [← eQ]
  have EQ := Lib.hid eQ
  have HEX := Lib.hid (exists_yes w d m c s k hx.blk hj)
  have hk : k < s.nb := by have := hj.2; omega
  have hnb := hx.wf.nb2
  have c4 : w.cell? ⟨d, 4, none⟩ = some (.bool s.off) := hx.blk.cell 4
  rw [ho] at c4
  have c2 : w.cell? ⟨d, 2, none⟩ = some (.pointer (some ⟨m, 0, none⟩)) := hx.blk.cell 2
  have c3 : w.cell? ⟨d, 3, none⟩ = some (.pointer (some ⟨c, 0, none⟩)) := hx.blk.cell 3
  have hdl := hx.blk.lt
  have hm1 := nil_clook ⟨c, 0, none⟩
  have hm2 := nil_mlook ⟨m, 0, none⟩
  obtain ⟨y, ey⟩ : ∃ y, y = IntKind.i64.wrap (s.c0 + 1) := ⟨_, rfl⟩
  have my : IntKind.i64.wrap (s.c0 + 1) = y := ey.symm
  obtain ⟨wA, ewA⟩ : ∃ wA, wA = (w.alloc (.cells #[.iface 51 (.pointer (some ⟨c, 0, none⟩)), .iface 50 (.pointer (some ⟨m, 0, none⟩))] 78)).drew := ⟨_, rfl⟩
  have hA : Below w.heap.size w wA := by rw [ewA]; exact below_drewN ((Below.refl _ _).alloc (Nat.le_refl _) _) 1
  have hxA := hx.keep (w1 := wA) (fun b hb => hA.block b (hl b (hO b hb))) hA.size
  have hbA : Blk wA w.heap.size 78 #[.iface 51 (.pointer (some ⟨c, 0, none⟩)), .iface 50 (.pointer (some ⟨m, 0, none⟩))] := by rw [ewA]; exact (Blk.new _ _ _).drew
  have p1 : wA.cell? ⟨w.heap.size, 1, none⟩ = some (.iface 50 (.pointer (some ⟨m, 0, none⟩))) := hbA.cell 1
  have hlk := clook_none wA c mc k F hxA.cac (by omega) (hx.noF hc)
  have hspn : spF s k = none := by
    unfold spF
    rw [if_neg]
    rintro ⟨_, _, h⟩
    rw [show ((k : Int)).toNat = k by omega, hs] at h; cases h
  have hml := mlook_ok wA m B ms s.nb s.sz k (durF s) (spF s) hxA.med hk hnb hx.wf.sz0 hx.wf.sz1 hspn
  have HLK := Lib.hid hlk
  have HML := Lib.hid hml
  have HX := Lib.hid hx
  have HXA := Lib.hid hxA
  have HA := Lib.hid hA
  have EY := Lib.hid ey
  have EWA := Lib.hid ewA
  have HO := Lib.hid hO
  have HL := Lib.hid hl
  clear hx hj ho hlk hml hxA hA ey ewA eQ hc hl hO hs hspn hbA
  go_enter Tryd.func11, Tryd.ntmps11
  go_wp2_with (go_at_call 22; with_reducible refine HEX.out.mono ?_; rintro e w' ⟨rfl, rfl⟩)
  go_region
  go_wp2_with fail
  refine wp_loop_rounds 2 ?_
  rw [rounds_succ]
  go_wp2_with fail
  rw [← EWA.out]
  refine HLK.out.mono ?_
  rintro e w1 ⟨rfl, rfl⟩
  go_wp2_with fail
  rw [rounds_succ]
  go_wp2_with fail
  refine HML.out.mono ?_
  rintro e w1 ⟨rfl, hb1⟩
  have hbw : Below w.heap.size w w1 := HA.out.trans (hb1.mono HA.out.size)
  have hx1 := HX.out.keep (w1 := w1) (fun b hb => hbw.block b (HL.out b (HO.out b hb))) hbw.size
  have a7 : w1.cell? ⟨d, 7, none⟩ = some (.int .i64 s.c0) := hx1.blk.cell 7
  have b7 := hx1.blk.free 7
  have hone : OneD w1 (w1.setCell ⟨d, 7, none⟩ (.int .i64 y)) d := (OneD.refl _ _).set _ _
  have hrd : Rd .u8 (w1.setCell ⟨d, 7, none⟩ (.int .i64 y)) (.slice (some ⟨B, k * s.sz, none⟩) s.sz (s.nb * s.sz - k * s.sz)) (s.dur k) := by
    have hB : B ≠ d := hx1.med.row.ne_blk hx1.blk (by decide)
    rcases hx1.durRd hk with h | ⟨b, off, cc, e, h1, h2, h3, h4⟩
    · exact .inl h
    · simp only [Value.slice.injEq, Option.some.injEq, Addr.mk.injEq] at e
      obtain ⟨⟨rfl, rfl, _⟩, e2, rfl⟩ := e
      exact .inr ⟨B, k * s.sz, _, by rw [e2], h1, h2, by rw [size_setCell]; exact h3, fun i hi => (cell_of_heap (hone.2.2.2.2 B hB) _).trans (h4 i hi)⟩
  have hfr := fresh_ok _ (s.dur k) _ hrd (by rw [HX.out.wf.dl k hk]; have := HX.out.wf.sz1; omega)
  have hfin : ∀ e w2, CpQ (w1.setCell ⟨d, 7, none⟩ (.int .i64 y)) (s.dur k) e w2 → ∃ v, e = .returned v ∧ Q (.returned (.tuple #[v, .nilIface])) w2 := fun e w2 hq => by
    rw [EQ.out]
    exact read_end HX.out HO.out HL.out hbw EY.out hq
  have HFR := Lib.hid hfr
  have HF := Lib.hid hfin
  clear hfr hfin hrd hone hx1 hbw hb1 p1
  go_wp2_with fail
  refine HFR.out.mono ?_
  intro e w2 hq
  obtain ⟨v, rfl, hQ⟩ := HF.out e w2 hq
  have HQ := Lib.hid hQ
  clear hq hQ
  go_wp2_with fail
  first | exact HQ.out | (go_ret2; exact HQ.out)
set_option maxHeartbeats 2000000 in
set_option maxRecDepth 100000 in
theorem read_bad (O : Nat → Prop) (w : World) (d : Nat) (s : DSt) (k : Nat) (h : DRep O w d s) (hj : s.inr k) (ho : s.off = false) (hc : s.ca k = []) (hs : s.sp k = true) :
    Calls Tryd.prog 11 #[.pointer (some ⟨d, 0, none⟩), .int .i64 k] w (ReadQ O w d s [] 21 k) := by
  have h' := h
  obtain ⟨m, c, B, ms, mc, F, G, hx, hO, hl⟩ := h
  obtain ⟨Q, eQ⟩ : ∃ Q, Q = ReadQ O w d s [] 21 k := ⟨_, rfl⟩
  rw [← eQ]
  have EQ := Lib.hid eQ
  have HEX := Lib.hid (exists_yes w d m c s k hx.blk hj)
  have hk : k < s.nb := by have := hj.2; omega
  have hnb := hx.wf.nb2
  have c4 : w.cell? ⟨d, 4, none⟩ = some (.bool s.off) := hx.blk.cell 4
  rw [ho] at c4
  have c2 : w.cell? ⟨d, 2, none⟩ = some (.pointer (some ⟨m, 0, none⟩)) := hx.blk.cell 2
  have c3 : w.cell? ⟨d, 3, none⟩ = some (.pointer (some ⟨c, 0, none⟩)) := hx.blk.cell 3
  have hdl := hx.blk.lt
  have hm1 := nil_clook ⟨c, 0, none⟩
  have hm2 := nil_mlook ⟨m, 0, none⟩
  obtain ⟨wA, ewA⟩ : ∃ wA, wA = (w.alloc (.cells #[.iface 51 (.pointer (some ⟨c, 0, none⟩)), .iface 50 (.pointer (some ⟨m, 0, none⟩))] 78)).drew := ⟨_, rfl⟩
  have hA : Below w.heap.size w wA := by rw [ewA]; exact below_drewN ((Below.refl _ _).alloc (Nat.le_refl _) _) 1
  have hxA := hx.keep (w1 := wA) (fun b hb => hA.block b (hl b (hO b hb))) hA.size
  have hbA : Blk wA w.heap.size 78 #[.iface 51 (.pointer (some ⟨c, 0, none⟩)), .iface 50 (.pointer (some ⟨m, 0, none⟩))] := by rw [ewA]; exact (Blk.new _ _ _).drew
  have p1 : wA.cell? ⟨w.heap.size, 1, none⟩ = some (.iface 50 (.pointer (some ⟨m, 0, none⟩))) := hbA.cell 1
  have hlk := clook_none wA c mc k F hxA.cac (by omega) (hx.noF hc)
  have hspn : spF s k = some (.agg #[]) := by
    unfold spF
    rw [if_pos ⟨by omega, by omega, by rw [show ((k : Int)).toNat = k by omega]; exact hs⟩]
  have hml := mlook_bad wA m B ms s.nb s.sz k (durF s) (spF s) hxA.med (by omega) hspn
  have HLK := Lib.hid hlk
  have HML := Lib.hid hml
  have HA := Lib.hid hA
  have EWA := Lib.hid ewA
  have HD := Lib.hid h'
  clear hx hj ho hlk hml hxA hA ewA eQ hc hl hO hs hspn hbA h'
  go_enter Tryd.func11, Tryd.ntmps11
  go_wp2_with (go_at_call 22; with_reducible refine HEX.out.mono ?_; rintro e w' ⟨rfl, rfl⟩)
  go_region
  go_wp2_with fail
  refine wp_loop_rounds 3 ?_
  rw [rounds_succ]
  go_wp2_with fail
  rw [← EWA.out]
  refine HLK.out.mono ?_
  rintro e w1 ⟨rfl, rfl⟩
  go_wp2_with fail
  rw [rounds_succ]
  go_wp2_with fail
  refine HML.out.mono ?_
  rintro e w1 ⟨rfl, hb1⟩
  have hbw : Below w.heap.size w w1 := HA.out.trans (hb1.mono HA.out.size)
  have hfin : ∀ v w2, RefQ w1 k 21 (.returned v) w2 → Q (.returned (.tuple #[.slice none 0 0, v])) w2 := fun v w2 hq => by
    rw [EQ.out]
    exact ref_read hq (by decide) (OnlyP.ofBelow hbw) (HD.out.below hbw)
  have HF := Lib.hid hfin
  clear hfin hbw hb1 p1
  go_wp2_with fail
  rw [rounds_succ]
  go_wp2_with fail
  refine (refuse_ok _ _ _).mono ?_
  intro e w2 hq
  have hq0 := hq
  obtain ⟨b, rfl, _⟩ := hq0
  have HQ2 := Lib.hid (HF.out _ _ hq)
  clear hq
  go_wp2_with fail
  first | exact HQ2.out | (go_ret2; exact HQ2.out)
/-- Read. -/
theorem read_ok (O : Nat → Prop) (w : World) (d : Nat) (s : DSt) (j : Int) (h : DRep O w d s) (hcap : (s.ca j.toNat).length ≤ 100000000000000) :
    Calls Tryd.prog 11 #[.pointer (some ⟨d, 0, none⟩), .int .i64 j] w (ReadQ O w d (readS s j) (readX s j) (readE s j) j) := by
  by_cases hj : s.inr j
  · obtain ⟨k, rfl⟩ : ∃ k : Nat, j = k := ⟨j.toNat, by have := hj.1; omega⟩
    rw [show ((k : Int)).toNat = k by omega] at hcap
    by_cases ho : s.off = true
    · have e : readE s k = 22 := by unfold readE; rw [if_neg (fun h => h hj), if_pos ho]
      have e1 : readX s k = [] := by unfold readX; rw [e, if_pos (by simp)]
      have e2 : readS s k = s := by unfold readS; rw [e, if_neg (by simp)]
      rw [e, e1, e2]; exact read_off O w d s k h hj ho
    · have ho' : s.off = false := by simpa using ho
      by_cases hc : s.ca k = []
      · by_cases hs : s.sp k = true
        · have e : readE s k = 21 := by unfold readE; rw [if_neg (fun h => h hj), if_neg ho, if_neg (by rw [show ((k : Int)).toNat = k by omega]; exact fun h => h hc), if_pos (by rw [show ((k : Int)).toNat = k by omega]; exact hs)]
          have e1 : readX s k = [] := by unfold readX; rw [e, if_pos (by simp)]
          have e2 : readS s k = s := by unfold readS; rw [e, if_neg (by simp)]
          rw [e, e1, e2]; exact read_bad O w d s k h hj ho' hc hs
        · have e : readE s k = 0 := by unfold readE; rw [if_neg (fun h => h hj), if_neg ho, if_neg (by rw [show ((k : Int)).toNat = k by omega]; exact fun h => h hc), if_neg (by rw [show ((k : Int)).toNat = k by omega]; exact hs)]
          have e1 : readX s k = s.dur k := by unfold readX; rw [e, if_neg (by simp), if_neg (by rw [show ((k : Int)).toNat = k by omega]; exact fun h => h hc)]; rfl
          have e2 : readS s k = { s with c0 := IntKind.i64.wrap (s.c0 + 1) } := by unfold readS; rw [e, if_pos rfl]
          rw [e, e1, e2]; exact read_med O w d s k h hj ho' hc (by simpa using hs)
      · have e : readE s k = 0 := by unfold readE; rw [if_neg (fun h => h hj), if_neg ho, if_pos (by rw [show ((k : Int)).toNat = k by omega]; exact hc)]
        have e1 : readX s k = (s.ca k).getD ((s.ca k).length - 1) [] := by unfold readX; rw [e, if_neg (by simp), if_pos (by rw [show ((k : Int)).toNat = k by omega]; exact hc)]; rfl
        have e2 : readS s k = { s with c0 := IntKind.i64.wrap (s.c0 + 1) } := by unfold readS; rw [e, if_pos rfl]
        rw [e, e1, e2]; exact read_cac O w d s k h hj ho' hc hcap
  · have e : readE s j = 2 := by unfold readE; rw [if_pos hj]
    have e1 : readX s j = [] := by unfold readX; rw [e, if_pos (by simp)]
    have e2 : readS s j = s := by unfold readS; rw [e, if_neg (by simp)]
    rw [e, e1, e2]; exact read_no O w d s j h hj
end Go.Proofs.YtgehbfnfhjpjbaaDoor
