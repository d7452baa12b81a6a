/- Joined of the texts LxR RowW. -/
import Derived.Test.YtigfcoibbmndpaaGreatMxG
import Derived.Deep.Grids
import Derived.Outline
import Derived.Test.YtigfcoibbmndpaaGreatMxH
/- Two pairs of disks side by side, played in turns: DiskPair's law. -/
namespace Go.Proofs.YtigfcoibbmndpaaGreat
open Go.RowKit
open Go.ChangeMaps
set_option linter.unusedVariables false
set_option linter.unusedSimpArgs false
/-- A list of turns. -/
def BlsR (w : World) (v : Value) (n : Nat) (bs : Nat → Bool) : Prop :=
  (n = 0 ∧ ∃ A c, v = .slice A 0 c) ∨ ∃ b off c, v = .slice (some ⟨b, off, none⟩) n c ∧ b < w.heap.size ∧ n ≤ 9223372036854775807 ∧ ∀ i, i < n → w.cell? ⟨b, off + i, none⟩ = some (.bool (bs i))
theorem BlsR.below {w w1 : World} {v : Value} {n : Nat} {bs : Nat → Bool} (h : BlsR w v n bs) (hb : Below w.heap.size w w1) : BlsR w1 v n bs := by
  rcases h with h | ⟨b, off, c, e, h1, h2, h3⟩
  · exact .inl h
  · exact .inr ⟨b, off, c, e, Nat.lt_of_lt_of_le h1 hb.size, h2, fun i hi => (cell_of_heap (hb.block b h1) _).trans (h3 i hi)⟩
theorem BlsR.slice {w : World} {v : Value} {n : Nat} {bs : Nat → Bool} (h : BlsR w v n bs) : ∃ A c, v = .slice A n c := by
  rcases h with ⟨rfl, A, c, rfl⟩ | ⟨b, off, c, rfl, _⟩
  · exact ⟨A, c, rfl⟩
  · exact ⟨_, c, rfl⟩
section
variable {X O P : Nat → Prop} {w w2 : World} {q d r n nB : Nat} {s t : DSt} {wh : Int} {k : BkV}
theorem PairA.far (ha : PairA X w q d s O r t P wh n k nB) (hk : ∀ b, X b → w2.heap[b]? = w.heap[b]?) (hs : w.heap.size ≤ w2.heap.size) : PairA X w2 q d s O r t P wh n k nB := by
  obtain ⟨Vs, hrow⟩ := ha.row
  exact ⟨(hk q ha.hq).trans ha.blk, ha.lt, ha.dd.keep (fun b hb => hk b (ha.hO b hb)) hs, ha.rr.keep (fun b hb => hk b (ha.hP b hb)) hs, ⟨Vs, own_keep2 hrow (fun g hg => hk g (ha.hrow g hg))⟩, ha.hnB, ha.hO, ha.hP, ha.hq, ha.hrow, fun b hb' => Nat.lt_of_lt_of_le (ha.lts b hb') hs, ha.oP, ha.oq, ha.orow⟩
theorem PairR.far (h : PairR X w q n) (hk : ∀ b, X b → w2.heap[b]? = w.heap[b]?) (hs : w.heap.size ≤ w2.heap.size) : PairR X w2 q n := by
  obtain ⟨d, s, O, r, P, wh, k, nB, ha⟩ := h
  exact ⟨d, s, O, r, P, wh, k, nB, ha.far hk hs⟩
theorem PairR.up (h : PairR X w q n) {n2 : Nat} (hn : n ≤ n2) : PairR X w q n2 := by
  obtain ⟨d, s, O, r, P, wh, k, nB, ha⟩ := h
  exact ⟨d, s, O, r, P, wh, k, nB, ⟨ha.blk, ha.lt, ha.dd, ha.rr.up hn, ha.row, Nat.le_trans ha.hnB hn, ha.hO, ha.hP, ha.hq, ha.hrow, ha.lts, ha.oP, ha.oq, ha.orow⟩⟩
theorem PairR.lts (h : PairR X w q n) {b : Nat} (hb : X b) : b < w.heap.size := by
  obtain ⟨d, s, O, r, P, wh, k, nB, ha⟩ := h
  exact ha.lts b hb
end
/-- Two pairs in the world, apart. -/
def BothR (B : Nat) (w : World) (p q n : Nat) : Prop := ∃ X Y, PairR X w p n ∧ PairR Y w q n ∧ (∀ b, X b → ¬ Y b) ∧ (∀ b, X b → B ≤ b) ∧ ∀ b, Y b → B ≤ b
theorem BothR.symm {B : Nat} {w : World} {p q n : Nat} (h : BothR B w p q n) : BothR B w q p n := by
  obtain ⟨X, Y, h1, h2, h3, h4, h5⟩ := h
  exact ⟨Y, X, h2, h1, fun b hb hx => h3 b hx hb, h5, h4⟩
/-- The first of the two has taken a step. -/
theorem both_step {B : Nat} {w w2 : World} {p q n n2 : Nat} {X Y : Nat → Prop} (h2 : PairR Y w q n) (h3 : ∀ b, X b → ¬ Y b) (h4 : ∀ b, X b → B ≤ b) (h5 : ∀ b, Y b → B ≤ b) (hB : B ≤ w.heap.size) (hn : n ≤ n2)
    (ho : OnlyP X w w2) (hs : ∃ X', PairR X' w2 p n2 ∧ ∀ b, X' b → X b ∨ w.heap.size ≤ b) : BothR B w2 p q n2 := by
  obtain ⟨X', g1, g2⟩ := hs
  refine ⟨X', Y, g1, (h2.far (fun b hb => ho.block b (h2.lts hb) (fun hx => h3 b hx hb)) ho.size).up hn, fun b hb hy => ?_, fun b hb => ?_, h5⟩
  · rcases g2 b hb with h | h
    · exact h3 b h hy
    · have := h2.lts hy; omega
  · rcases g2 b hb with h | h
    · exact h4 b h
    · omega
def PairQ (w : World) (e : Ending) (w' : World) : Prop := e = .returned (.bool true) ∧ Below w.heap.size w w'
set_option maxHeartbeats 1000000 in
set_option maxRecDepth 100000 in
theorem pair_law (w : World) (m1 m2 : MadeV) (v tv : Value) (os : List OpV) (tn : Nat) (bs : Nat → Bool) (hr1 : Rd .u8 w m1.iv m1.img) (hl1 : m1.img.length ≤ 140737488351232) (hr2 : Rd .u8 w m2.iv m2.img) (hl2 : m2.img.length ≤ 140737488351232) (hv : OpsR w v os) (hn : os.length ≤ 1048576) (hd : ∀ i, i < os.length → (os.getD i d0).data.length ≤ 1048576) (ht : BlsR w tv tn bs) :
    Calls Tryz.prog 10 #[m1.agg, m2.agg, v, tv] w fun e w' => e = .returned (.bool true) ∧ Below w.heap.size w w' := by
  change Calls _ _ _ _ (PairQ w)
  obtain ⟨Q, eQ⟩ : ∃ Q : Ending → World → Prop, Q = PairQ w := ⟨_, rfl⟩
  rw [← eQ]
  have EQ := Lib.hid eQ
  obtain ⟨wa, ewa⟩ : ∃ wa, wa = w.alloc (.cells #[.bool m1.load, .int .i64 m1.nb, .int .i64 m1.sz, m1.iv] 24) := ⟨_, rfl⟩
  obtain ⟨wb, ewb⟩ : ∃ wb, wb = wa.alloc (.cells #[.bool m2.load, .int .i64 m2.nb, .int .i64 m2.sz, m2.iv] 24) := ⟨_, rfl⟩
  have hza : wa.heap.size = w.heap.size + 1 := by rw [ewa]; simp
  have hba : Below w.heap.size w wa := by rw [ewa]; exact (Below.refl _ _).alloc (Nat.le_refl _) _
  have hbw : Below w.heap.size w wb := by rw [ewb]; exact hba.alloc (hba.size) _
  have hbox1 : Blk wb w.heap.size 24 #[.bool m1.load, .int .i64 m1.nb, .int .i64 m1.sz, m1.iv] := by rw [ewb, ewa]; exact (Blk.new _ _ _).alloc _
  have hbox2 : Blk wb (w.heap.size + 1) 24 #[.bool m2.load, .int .i64 m2.nb, .int .i64 m2.sz, m2.iv] := by rw [ewb, ← hza]; exact Blk.new _ _ _
  have hmd1 := made_ok wb m1 (hr1.below hbw) hl1
  have hmd2 : ∀ w2, Below w.heap.size w w2 → Calls Tryz.prog 11 #[m2.agg] w2 (MadeQ w2) := fun w2 h => made_ok w2 m2 (hr2.below h) hl2
  obtain ⟨A, c, rfl⟩ := hv.slice
  obtain ⟨At, ct, rfl⟩ := ht.slice
  obtain ⟨L, eL⟩ : ∃ L, L = os.length := ⟨_, rfl⟩
  rw [← eL] at hn hd ⊢
  obtain ⟨Ai, ci, eiv⟩ := hr1.slice
  obtain ⟨Aj, cj, ejv⟩ := hr2.slice
  have HV := Lib.hid hv
  have HT := Lib.hid ht
  have EL := Lib.hid eL
  have HD := Lib.hid hd
  have HBW := Lib.hid hbw
  have HBOX1 := Lib.hid hbox1
  have HBOX2 := Lib.hid hbox2
  have HMD1 := Lib.hid hmd1
  have HMD2 := Lib.hid hmd2
  have EWA := Lib.hid ewa
  have EWB := Lib.hid ewb
  have HZA := Lib.hid hza
  have htn : tn ≤ 9223372036854775807 := by
    rcases ht with ⟨rfl, _⟩ | ⟨_, _, _, _, _, h, _⟩
    · omega
    · exact h
  clear eQ hr1 hl1 hr2 hl2 hv ht eL hd hba hbw hbox1 hbox2 hmd1 hmd2 ewa ewb hza
  obtain ⟨load1, nb1, sz1, iv1, img1⟩ := m1
  obtain ⟨load2, nb2, sz2, iv2, img2⟩ := m2
  dsimp only at eiv ejv HBOX1 HBOX2 EWA EWB HMD1 HMD2
  subst eiv ejv
  simp only [MadeV.agg] at HMD1 HMD2 ⊢
  go_enter Tryz.func10, Tryz.ntmps10
  go_upto_region 2 with (fail)
  rw [← EWA.out, ← EWB.out]
  obtain ⟨B1, eB1⟩ : ∃ x, x = w.heap.size := ⟨_, rfl⟩
  obtain ⟨B2, eB2⟩ : ∃ x, x = w.heap.size + 1 := ⟨_, rfl⟩
  rw [← eB2] at HBOX2 ⊢
  rw [← eB1] at HBOX1 ⊢
  clear eB1 eB2
  refine HMD1.out.mono ?_
  rintro e w2 ⟨p, rfl, hb2, hp, hcase1⟩
  have hbb : Below w.heap.size w w2 := HBW.out.trans (hb2.mono HBW.out.size)
  have HB2 := Lib.hid hbb
  have hbx := HBOX2.out.below hb2 HBOX2.out.lt
  have HC1 := Lib.hid hcase1
  have HBX := Lib.hid hbx
  have HP := Lib.hid hp
  clear HMD1 hb2 hbb hp hcase1 hbx
  have hmd := HMD2.out w2 HB2.out
  have HMD := Lib.hid hmd
  have b0 := HBX.out.cell 0
  have b1 := HBX.out.cell 1
  have b2 := HBX.out.cell 2
  have b3 := HBX.out.cell 3
  simp only [List.getElem?_toArray, List.getElem?_cons_zero, List.getElem?_cons_succ] at b0 b1 b2 b3
  clear hmd HMD2
  go_wp2_with fail
  refine HMD.out.mono ?_
  rintro e w3 ⟨q, rfl, hb3, hq, hcase2⟩
  have hbb : Below w.heap.size w w3 := HB2.out.trans (hb3.mono HB2.out.size)
  have HB3 := Lib.hid hbb
  have hpl : p < w2.heap.size := by
    rcases HC1.out with ⟨X, hpr, hX⟩ | hz
    · obtain ⟨d, s, O, r, P, wh, k, nB, ha⟩ := hpr
      exact ha.blk.lt
    · exact hz.lt
  have HF := Lib.hid (show Q (.returned (.bool true)) w3 by rw [EQ.out]; exact ⟨rfl, hbb⟩)
  have hboth : (BothR w.heap.size w3 p q 0) ∨ (w3.cell? ⟨p, 0, none⟩ = some (.pointer none)) ∨ ((∃ d, w3.cell? ⟨p, 0, none⟩ = some (.pointer (some ⟨d, 0, none⟩))) ∧ w3.cell? ⟨q, 0, none⟩ = some (.pointer none)) := by
    rcases HC1.out with ⟨X, hpr, hX⟩ | hz
    · rcases hcase2 with ⟨Y, hqr, hY⟩ | hz
      · refine .inl ⟨X, Y, hpr.far (fun b hb => hb3.block b (hpr.lts hb)) hb3.size, hqr, fun b hb hy => ?_, fun b hb => Nat.le_trans HBW.out.size (hX b hb), fun b hb => ?_⟩
        · have h1 := hpr.lts hb; have h2 := hY b hy; omega
        · exact Nat.le_trans HB2.out.size (hY b hb)
      · obtain ⟨d, s, O, r, P, wh, k, nB, ha⟩ := hpr.far (fun b hb => hb3.block b (hpr.lts hb)) hb3.size
        exact .inr (.inr ⟨⟨d, ha.blk.cell 0⟩, hz.cell 0⟩)
    · exact .inr (.inl ((hz.below hb3 hz.lt).cell 0))
  have HBO := Lib.hid hboth
  clear HMD b0 b1 b2 b3 hb3 hbb hq hcase2 hpl hboth HC1 HBX HBOX1 HBOX2
  rcases HBO.out with hpq | c0 | ⟨⟨d, c0⟩, c1⟩
  · have HPQ := Lib.hid hpq
    obtain ⟨X, Y, hx, hy, h3, h4, h5⟩ := hpq
    obtain ⟨d, s, O, r, P, wh, k, nB, ha⟩ := id hx
    obtain ⟨d', s', O', r', P', wh', k', nB', ha'⟩ := id hy
    have c0 : w3.cell? ⟨p, 0, none⟩ = some (.pointer (some ⟨d, 0, none⟩)) := ha.blk.cell 0
    have c1 : w3.cell? ⟨q, 0, none⟩ = some (.pointer (some ⟨d', 0, none⟩)) := ha'.blk.cell 0
    clear hx hy h3 h4 h5 ha ha' HBO
    go_wp2_with fail
    clear c0 c1
    go_loopw [13, 14] (fun b _ wr => ∃ i : Nat, i ≤ L ∧ b = .int .i64 i ∧ BothR w.heap.size wr p q (8193 * i) ∧ Below w.heap.size w wr) (fun b _ _ => L - (intOf b).toNat)
    case atStart => exact ⟨0, Nat.zero_le _, rfl, HPQ.out, HB3.out⟩
    case round =>
      obtain ⟨i, hi, rfl, hbo, hbr⟩ := hrel
      have HBR := Lib.hid hbr
      have HBO := Lib.hid hbo
      clear HPQ HB3 HF
      by_cases hlt : i < L
      · obtain ⟨bb, off, rfl, hbbl, ho1⟩ : ∃ bb off, A = some ⟨bb, off, none⟩ ∧ bb < w.heap.size ∧ OpR1 w bb (off + i * 4) (os.getD i d0) := by
          rcases HV.out.2 with ⟨h, _⟩ | ⟨b, off, c, e, g1, g2, g3, g4⟩
          · have := EL.out; rw [h] at this; simp at this; omega
          · simp only [Value.slice.injEq] at e
            exact ⟨b, off, e.1, g3, g4 i (by rw [← EL.out]; exact hlt)⟩
        have hdl := HD.out i hlt
        obtain ⟨o, eo⟩ : ∃ o, o = os.getD i d0 := ⟨_, rfl⟩
        rw [← eo] at ho1 hdl
        have ho2 := ho1.below hbbl hbr
        have k0 := ho2.c0
        have k1 := ho2.c1
        have k2 := ho2.c2
        have k3 := ho2.c3
        have hstep : ∀ a b, BothR w.heap.size wr a b (8193 * i) → Calls Tryz.prog 12 #[.pointer (some ⟨a, 0, none⟩), o.agg] wr (fun e w' => e = .returned (.bool true) ∧ BothR w.heap.size w' a b (8193 * (i + 1)) ∧ Below w.heap.size w w') := by
          intro a b hab
          obtain ⟨X, Y, hx, hy, h3, h4, h5⟩ := hab
          obtain ⟨d, s, O, r, P, wh, k, nB, ha⟩ := hx
          refine (step_ok X wr a d s O r P wh (8193 * i) k nB o ha (rdN_old ho1.rd (Nat.le_refl _) hbr h4) ho1.i1 ho1.i2 ho1.bl hdl (by omega)).mono ?_
          rintro e w' ⟨rfl, hon, X4, hpr4, hX4⟩
          refine ⟨rfl, both_step hy h3 h4 h5 hbr.size (by omega) hon ⟨X4, by rw [show 8193 * (i + 1) = 8193 * i + 8193 by omega]; exact hpr4, hX4⟩, hbr.trans (hon.below hbr.size h4)⟩
        have hsp := hstep p q hbo
        have hsq := hstep q p hbo.symm
        unfold OpV.agg at hsp hsq
        have hlt2 : decide (i < L) = true := decide_eq_true hlt
        have hwhich : (∃ bt offt, At = some ⟨bt, offt, none⟩ ∧ i < tn ∧ wr.cell? ⟨bt, offt + i, none⟩ = some (.bool (bs i))) ∨ tn ≤ i := by
          by_cases h : i < tn
          · rcases HT.out with ⟨h0, _⟩ | ⟨bt, offt, ct', e, g1, g2, g3⟩
            · omega
            · simp only [Value.slice.injEq] at e
              exact .inl ⟨bt, offt, e.1, h, (cell_of_heap (hbr.block bt g1) _).trans (g3 i h)⟩
          · exact .inr (by omega)
        have HSP := Lib.hid hsp
        have HSQ := Lib.hid hsq
        have HWH := Lib.hid hwhich
        obtain ⟨kind, blk, cnt, dv, data⟩ := o
        dsimp only at k0 k1 k2 k3 HSP HSQ
        clear hsp hsq hwhich hstep eo ho1 ho2 hbr hbo hdl HT
        rcases HWH.out with ⟨bt, offt, rfl, hit, ct0⟩ | hit
        · have hit2 : decide (i < tn) = true := decide_eq_true hit
          clear HWH
          cases hbi : bs i
          · rw [hbi] at ct0
            clear hbi
            go_wp2_with fail
            refine HSP.out.mono ?_
            rintro e w4 ⟨rfl, hb4, hbl4⟩
            have HB4 := Lib.hid hb4
            have HBL4 := Lib.hid hbl4
            clear HSP HSQ hb4 hbl4 k0 k1 k2 k3 ct0
            go_wp2_with fail
            go_roundw
            case rel => exact ⟨i + 1, by omega, by go_num, HB4.out, HBL4.out⟩
            case measure => simp [intOf] <;> omega
          · rw [hbi] at ct0
            clear hbi
            go_wp2_with fail
            refine HSQ.out.mono ?_
            rintro e w4 ⟨rfl, hb4, hbl4⟩
            have HB4 := Lib.hid hb4.symm
            have HBL4 := Lib.hid hbl4
            clear HSP HSQ hb4 hbl4 k0 k1 k2 k3 ct0
            go_wp2_with fail
            go_roundw
            case rel => exact ⟨i + 1, by omega, by go_num, HB4.out, HBL4.out⟩
            case measure => simp [intOf] <;> omega
        · have hit2 : decide (i < tn) = false := decide_eq_false (by omega)
          clear HWH
          go_wp2_with fail
          refine HSP.out.mono ?_
          rintro e w4 ⟨rfl, hb4, hbl4⟩
          have HB4 := Lib.hid hb4
          have HBL4 := Lib.hid hbl4
          clear HSP HSQ hb4 hbl4 k0 k1 k2 k3 hit2
          go_wp2_with fail
          go_roundw
          case rel => exact ⟨i + 1, by omega, by go_num, HB4.out, HBL4.out⟩
          case measure => simp [intOf] <;> omega
      · obtain rfl : L = i := by omega
        have HF := Lib.hid (show Q (.returned (.bool true)) wr by rw [EQ.out]; exact ⟨rfl, hbr⟩)
        clear hbo hbr
        go_wp2_with fail
        first | exact HF.out | (go_ret; exact HF.out)
  · clear HBO
    go_wp2_with fail
    first | exact HF.out | (go_ret; exact HF.out)
  · clear HBO
    go_wp2_with fail
    first | exact HF.out | (go_ret; exact HF.out)
end Go.Proofs.YtigfcoibbmndpaaGreat
/- A list of turns as it reads. -/
namespace Go.Proofs.YtigfcoibbmndpaaGreat
open Go.ChangeShapes Go.WideShapes Go.ChangeAt Go.RowKit Go.Deep
set_option linter.unusedVariables false
set_option linter.unusedSimpArgs false
theorem bools_of_trod {H : Type} {enc : TypeId × Value → H} {P : Program} {W : World} {base : Nat} {held : Bool} {t e : TypeId} {a : Option Addr} {len cap : Nat} {d : DataW H} {ps : List MemPlace} (hu : P.underlying t = some (.slice e)) (he : P.underlying e = some .bool) (hc : P.cellsOf e = 1)
    (h : DataW.Trod enc P W base (fun _ => true) held t (.slice a len cap) d ps) : ∃ n bs, BlsR W (.slice a len cap) n bs := by
  obtain ⟨fuel, hf⟩ := h
  simp only [Value.cells] at hf
  rcases open_bools hu he hc hf with ⟨hcs, _⟩ | ⟨x, l, c, B, hcs, _, hl, hm, hx, hcell⟩
  · simp at hcs
    obtain ⟨rfl, rfl, rfl⟩ := hcs
    exact ⟨0, fun _ => false, .inl ⟨rfl, _, _, rfl⟩⟩
  · simp at hcs
    obtain ⟨rfl, rfl, rfl⟩ := hcs
    by_cases h0 : len = 0
    · subst h0; exact ⟨0, fun _ => false, .inl ⟨rfl, _, _, rfl⟩⟩
    · obtain ⟨b, off, rfl⟩ := addr_plain (hcell 0 (by omega))
      unfold maxLen at hm
      exact ⟨len, B, .inr ⟨b, off, cap, rfl, World.block_lt_of_cell? W _ (hcell 0 (by omega)), by omega, fun i hi => by have := hcell i (by omega); rwa [Go.WideShapes.add_plain] at this⟩⟩
end Go.Proofs.YtigfcoibbmndpaaGreat
