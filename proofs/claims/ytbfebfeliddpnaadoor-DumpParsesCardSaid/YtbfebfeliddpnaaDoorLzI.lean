/- DumpParses: the walk of the law. -/
import Derived.Test.YtbfebfeliddpnaaDoorLzH
namespace Go.Proofs.YtbfebfeliddpnaaDoor
open Go.RowKit
open Go.ChangeMaps
set_option linter.unusedVariables false
set_option linter.unusedSimpArgs false
theorem BkS.inter {B : Nat} {w : World} {p n : Nat} {S : Nat → Prop} {vW vI : Value} {LW LI : List Value} (h : BkS B w p n S vW vI LW LI) : BkS B w p n (fun b => S b ∧ b < w.heap.size) vW vI LW LI :=
  ⟨h.blk, h.hp, h.ws, h.is, fun i v hi => let ⟨c, h1, h2, h3⟩ := h.mw i v hi; ⟨c, h1, h2, fun g hg => ⟨⟨(h3 g hg).1, let ⟨cs, hb⟩ := (h3 g hg).2; hb.lt⟩, (h3 g hg).2⟩⟩, fun i v hi => let ⟨c, h1, h2, h3⟩ := h.mi i v hi; ⟨c, h1, h2, fun g hg => ⟨⟨(h3 g hg).1, let ⟨cs, hb⟩ := (h3 g hg).2; hb.lt⟩, (h3 g hg).2⟩⟩⟩
theorem below_up {B C : Nat} {w w1 : World} (h : Below B w w1) (hC : C ≤ B) : Below C w w1 := ⟨h.os, h.tape, h.output, h.size, fun b hb => h.block b (by omega)⟩
def PairOk (C : Nat) (w : World) (L1 L2 : DL) : Prop := ∀ (j : Nat) (x y : Dm × Value × Value), L1[j]? = some x → L2[j]? = some y → x.1 = y.1 ∧ x.1.bl ≤ 4096 ∧ x.1.slots.length ≤ 16 ∧ DumpIn C w x.1 x.2.1 x.2.2 ∧ DumpIn C w y.1 y.2.1 y.2.2
def SepOk (L : DL) : Prop := ∀ (i j : Nat) (x y : Dm × Value × Value) (g : Nat), i < j → L[i]? = some x → L[j]? = some y → OwnD x g → ¬ OwnD y g
theorem app12at {P : Program} {ops : Array Oper} {rest : List Oper} {o : Oper} {a : Act} {Q : Exit → Act → World → Prop} {W : World} (hgd : o.guard = none) (s x : Operand) (t : TypeId)
    (ho : o.op = .call { callee := .builtin .append, args := #[s, x], argTypes := #[t, t] }) (B : Nat) (e : TypeId) (z : Value) (bytes : Nat) (ht : P.underlying t = some (.slice e))
    (hinfo : (P.info? e).map (fun i => (i.zero, i.size, i.bytes)) = some (some z, 12, bytes)) (hz : z.cells.size = 12) (v : Value) (n : Nat) (xs : List Value) (hs : a.eval s = v) (hown : W.ownsRow B e 12 v n xs)
    (us : List Value) (hul : us.length = 12) (c : Nat) (hx : a.eval x = .slice (some ⟨W.heap.size, 0, none⟩) 1 c) (hu : ∀ u ∈ us, u.oneCell' = true) (hn : n + 1 ≤ maxLen) (hb : (n + 1) * bytes ≤ 140737488355328) (hB : B ≤ W.heap.size)
    (h : ∀ v' w', w'.ownsRow B e 12 v' (n + 1) (xs ++ us) → W.grownBy w' v.ownBlock → (∀ g, v'.ownBlock = some g → v.ownBlock = some g ∨ W.heap.size ≤ g) → wpList P ops Q rest (a.put o.dst v') w') : wpList P ops Q (o :: rest) a (W.alloc (.cells us.toArray e)) := by
  obtain ⟨i, hi, hzz⟩ := Option.map_eq_some_iff.1 hinfo
  simp only [Prod.mk.injEq] at hzz
  obtain ⟨h0, h1, h2⟩ := hzz
  refine wpList_append_own_at _ hgd s x t ho B e i z 12 bytes ht hi h0 h1 h2 hz (by decide) v n xs hs (hown.alloc _) ⟨W.heap.size, 0, none⟩ 1 c us hx (by rw [hul]) ?_ hu hn hb (by rw [size_alloc]; omega) ?_
  · have h9 := World.news_of_block (cs := us.toArray) (t := e) (fr := (0, 0)) (Blk.new W e us.toArray)
    intro j u hj
    exact h9 j u (by simpa using hj)
  · intro v' w' h3 h4 _ h5
    refine h v' w' h3 (grown_alloc h4 ?_) (fun g hg => ?_)
    · intro e1
      have := (hown.lt W.heap.size e1).2
      omega
    · rcases h5 with h5 | h5
      · exact .inl (by rw [← h5]; exact hg)
      · rw [h5, size_alloc] at hg
        simp only [Option.some.injEq] at hg
        exact .inr (by omega)
theorem DumpIn.lower {B C : Nat} {w : World} {D : Dm} {vb vs : Value} (h : DumpIn B w D vb vs) (hC : C ≤ B) : DumpIn C w D vb vs := ⟨own_lower h.1 hC, own_lower h.2 hC⟩
theorem DumpIn.ownlt {B : Nat} {w : World} {D : Dm} {vb vs : Value} (h : DumpIn B w D vb vs) {g : Nat} (hg : OwnD (D, vb, vs) g) : B ≤ g ∧ g < w.heap.size := hg.elim (fun h9 => h.1.lt g h9) (fun h9 => h.2.lt g h9)
/-- A round of the first loop: one more pair. -/
theorem round_ok {C i : Nat} {wr wD wE wF : World} {rv wv v4 v5 : Value} {L1 L2 : DL} {D : Dm} {va vc vb vd : Value} (hl1 : L1.length = i) (hl2 : L2.length = i) (hC : C ≤ wr.heap.size) (o1 : wr.ownsRow C 31 12 rv i (flatD L1)) (o2 : wr.ownsRow C 31 12 wv i (flatD L2)) (hdj : ∀ g, rv.ownBlock = some g → wv.ownBlock ≠ some g)
    (hb : Below wr.heap.size wr wD) (hpo : PairOk C wr L1 L2) (hsp : SepOk L1) (h1 : DumpIn wr.heap.size wD D va vc) (h2 : DumpIn wr.heap.size wD D vb vd) (hs1 : D.bl ≤ 4096) (hs2 : D.slots.length ≤ 16)
    (hE : wE.ownsRow C 31 12 v4 (i + 1) (flatD L1 ++ (D.arr va vc).toList)) (gE : wD.grownBy wE rv.ownBlock) (lE : ∀ g, v4.ownBlock = some g → rv.ownBlock = some g ∨ wD.heap.size ≤ g)
    (hF : wF.ownsRow C 31 12 v5 (i + 1) (flatD L2 ++ (D.arr vb vd).toList)) (gF : wE.grownBy wF wv.ownBlock) (lF : ∀ g, v5.ownBlock = some g → wv.ownBlock = some g ∨ wE.heap.size ≤ g) :
    ∃ L1' L2' : DL, L1'.length = i + 1 ∧ L2'.length = i + 1 ∧ wF.ownsRow C 31 12 v4 (i + 1) (flatD L1') ∧ wF.ownsRow C 31 12 v5 (i + 1) (flatD L2') ∧ (∀ g, v4.ownBlock = some g → v5.ownBlock ≠ some g) ∧ Below C wr wF ∧ PairOk C wF L1' L2' ∧ SepOk L1' := by
  have hsz := hb.size
  have hszE := gE.size
  have hE4 : ∀ g, v4.ownBlock = some g → g < wE.heap.size := fun g hg => (hE.lt g hg).2
  have hv4 : ∀ g, v4.ownBlock = some g → wv.ownBlock ≠ some g := fun g hg hc => by
    rcases lE g hg with h | h
    · exact hdj g h hc
    · have := (o2.lt g hc).2; omega
  have hon : OnlyP (fun b => rv.ownBlock = some b ∨ wv.ownBlock = some b) wr wF := ((OnlyP.ofBelow hb).grown gE (fun g hg => .inl (.inl hg))).grown gF (fun g hg => .inl (.inr hg))
  have hnew : ∀ g, wr.heap.size ≤ g → g < wD.heap.size → wF.heap[g]? = wD.heap[g]? := fun g h1 h2 => by
    rw [gF.block g (by omega) (fun h => by have := (o2.lt g h.symm).2; omega), gE.block g h2 (fun h => by have := (o1.lt g h.symm).2; omega)]
  have hN1 : DumpIn C wF D va vc := (h1.keep (fun g hg => hnew g (h1.1.lt g hg).1 (h1.1.lt g hg).2) (fun g hg => hnew g (h1.2.lt g hg).1 (h1.2.lt g hg).2)).lower hC
  have hN2 : DumpIn C wF D vb vd := (h2.keep (fun g hg => hnew g (h2.1.lt g hg).1 (h2.1.lt g hg).2) (fun g hg => hnew g (h2.2.lt g hg).1 (h2.2.lt g hg).2)).lower hC
  have hold : ∀ (X : Dm) (a b : Value), DumpIn C wr X a b → DumpIn C wF X a b := fun X a b h => h.keep
    (fun g hg => hon.block g (h.1.lt g hg).2 (fun hc => hc.elim (fun e => own_ne o1 h.1 (by decide) g e hg) (fun e => own_ne o2 h.1 (by decide) g e hg)))
    (fun g hg => hon.block g (h.2.lt g hg).2 (fun hc => hc.elim (fun e => own_ne o1 h.2 (by decide) g e hg) (fun e => own_ne o2 h.2 (by decide) g e hg)))
  refine ⟨L1 ++ [(D, va, vc)], L2 ++ [(D, vb, vd)], by simp [hl1], by simp [hl2], ?_, ?_, ?_, hon.below hC (fun x hx => hx.elim (fun h => (o1.lt x h).1) (fun h => (o2.lt x h).1)), ?_, ?_⟩
  · rw [flatD_snoc]
    exact own_keep2 hE (fun g hg => gF.block g (hE4 g hg) (fun h => hv4 g hg h.symm))
  · rw [flatD_snoc]; exact hF
  · intro g hg hc
    rcases lF g hc with h | h
    · exact hv4 g hg h
    · have := hE4 g hg; omega
  · intro j x y hx hy
    rcases Nat.lt_or_ge j i with hj | hj
    · rw [List.getElem?_append_left (by omega)] at hx hy
      obtain ⟨a1, a2, a3, a4, a5⟩ := hpo j x y hx hy
      exact ⟨a1, a2, a3, hold _ _ _ a4, hold _ _ _ a5⟩
    · rw [List.getElem?_append_right (by omega)] at hx hy
      have hj0 : j = i := by
        have h9 := (List.getElem?_eq_some_iff.1 hx).1
        simp at h9; omega
      rw [hj0, hl1, Nat.sub_self] at hx
      rw [hj0, hl2, Nat.sub_self] at hy
      simp only [List.getElem?_cons_zero, Option.some.injEq] at hx hy
      subst hx
      subst hy
      exact ⟨rfl, hs1, hs2, hN1, hN2⟩
  · intro j k x y g hjk hx hy hg hc
    have hlt : ∀ (j : Nat) (x : Dm × Value × Value), L1[j]? = some x → OwnD x g → g < wr.heap.size := fun j x hx hg => by
      obtain ⟨y, hy⟩ : ∃ y : Dm × Value × Value, L2[j]? = some y := ⟨_, List.getElem?_eq_getElem (by have := (List.getElem?_eq_some_iff.1 hx).1; omega)⟩
      obtain ⟨_, _, _, a4, _⟩ := hpo j x y hx hy
      exact (DumpIn.ownlt a4 hg).2
    rcases Nat.lt_or_ge k i with hk | hk
    · rw [List.getElem?_append_left (by omega)] at hx hy
      exact hsp j k x y g hjk hx hy hg hc
    · rw [List.getElem?_append_right (by omega)] at hy
      have hk0 : k = i := by
        have h9 := (List.getElem?_eq_some_iff.1 hy).1
        simp at h9; omega
      rw [hk0, hl1, Nat.sub_self] at hy
      simp only [List.getElem?_cons_zero, Option.some.injEq] at hy
      subst hy
      rw [List.getElem?_append_left (by omega)] at hx
      have := (DumpIn.ownlt h1 hc).1
      have := hlt j x hx hg
      omega
set_option maxHeartbeats 16000000 in
set_option maxRecDepth 100000 in
theorem parses_law (w : World) (s : ByteArray) (hs : s.size ≤ 9223372036854775807) (ht : FlagTab w) :
    Calls Tryd.prog 3 #[.string s] w (fun e w' => e = .returned (.bool true) ∧ Below w.heap.size w w') := by
  obtain ⟨Q, eQ⟩ : ∃ Q : Ending → World → Prop, Q = fun e w' => e = .returned (.bool true) ∧ Below w.heap.size w w' := ⟨_, rfl⟩
  rw [← eQ]
  have HF := Lib.hid (fun w' (h : Below w.heap.size w w') => show Q (.returned (.bool true)) w' by rw [eQ]; exact ⟨rfl, h⟩)
  clear eQ
  have htl : 0 < w.heap.size := by obtain ⟨t, h⟩ := ht; exact Blk.lt h
  have HPP := Lib.hid (fun wq (hq : Below w.heap.size w wq) (t : ByteArray) (h : t.size ≤ 9223372036854775807) => parseP_ok wq t h (ht.heap (hq.block _ htl)))
  have HPR := Lib.hid (fun wq (t : ByteArray) (h : t.size ≤ 9223372036854775807) => parseR_ok wq t h)
  clear ht htl
  go_enter Tryd.func3, Tryd.ntmps3
  go_wp2_with fail
  refine (HPR.out w s hs).mono ?_
  rintro e w10 ⟨hb10, vb0, vs0, rfl, hd0⟩
  have hsh := outP_short (s)
  obtain ⟨D0, P0, E0, eO⟩ : ∃ D P E, outP (s) = (D, P, E) := ⟨_, _, _, rfl⟩
  rw [eO] at hd0 hsh ⊢
  have EOa := Lib.hid eO
  obtain ⟨nba, enb⟩ : ∃ x, x = D0.nw := ⟨_, rfl⟩
  obtain ⟨nsa, ens⟩ : ∃ x, x = D0.slots.length := ⟨_, rfl⟩
  have ENa := Lib.hid (And.intro enb ens)
  have HSHa := Lib.hid hsh
  clear eO hsh enb ens
  obtain ⟨asq, easq⟩ : ∃ z, z = D0.sq := ⟨_, rfl⟩
  have Easq := Lib.hid easq
  obtain ⟨abl, eabl⟩ : ∃ z, z = D0.bl := ⟨_, rfl⟩
  have Eabl := Lib.hid eabl
  obtain ⟨asz, easz⟩ : ∃ z, z = D0.sz := ⟨_, rfl⟩
  have Easz := Lib.hid easz
  obtain ⟨asl, easl⟩ : ∃ z, z = D0.sl := ⟨_, rfl⟩
  have Easl := Lib.hid easl
  obtain ⟨ag0, eag0⟩ : ∃ z, z = D0.g0 := ⟨_, rfl⟩
  have Eag0 := Lib.hid eag0
  obtain ⟨ag1, eag1⟩ : ∃ z, z = D0.g1 := ⟨_, rfl⟩
  have Eag1 := Lib.hid eag1
  obtain ⟨ag2, eag2⟩ : ∃ z, z = D0.g2 := ⟨_, rfl⟩
  have Eag2 := Lib.hid eag2
  obtain ⟨ag3, eag3⟩ : ∃ z, z = D0.g3 := ⟨_, rfl⟩
  have Eag3 := Lib.hid eag3
  obtain ⟨afl, eafl⟩ : ∃ z, z = D0.fl := ⟨_, rfl⟩
  have Eafl := Lib.hid eafl
  obtain ⟨amr, eamr⟩ : ∃ z, z = D0.mr := ⟨_, rfl⟩
  have Eamr := Lib.hid eamr
  clear easq eabl easz easl eag0 eag1 eag2 eag3 eafl eamr
  obtain ⟨Ab0, cb0, rfl⟩ := own_sl hd0.1
  obtain ⟨As0, cs0, rfl⟩ := own_sl hd0.2
  obtain ⟨b0, eb0⟩ : ∃ x, x = w10.heap.size := ⟨_, rfl⟩
  obtain ⟨w20, e20⟩ : ∃ x, x = w10.alloc (.cells #[.int .u64 (D0.sq : Nat), .int .i64 (D0.bl : Nat), .int .i64 (D0.sz : Nat), .int .i64 (D0.sl : Nat), .int .u64 (D0.g0 : Nat), .int .u64 (D0.g1 : Nat), .int .u64 (D0.g2 : Nat), .int .u64 (D0.g3 : Nat), .int .u32 (D0.fl : Nat), .int .i64 (D0.mr : Nat), .slice Ab0 D0.nw cb0, .slice As0 D0.slots.length cs0] 31) := ⟨_, rfl⟩
  have hbk0 : Blk w20 w10.heap.size 31 #[.int .u64 (D0.sq : Nat), .int .i64 (D0.bl : Nat), .int .i64 (D0.sz : Nat), .int .i64 (D0.sl : Nat), .int .u64 (D0.g0 : Nat), .int .u64 (D0.g1 : Nat), .int .u64 (D0.g2 : Nat), .int .u64 (D0.g3 : Nat), .int .u32 (D0.fl : Nat), .int .i64 (D0.mr : Nat), .slice Ab0 D0.nw cb0, .slice As0 D0.slots.length cs0] := by rw [e20]; exact Blk.new _ _ _
  have hb20 : Below w10.heap.size w10 w20 := by rw [e20]; exact (Below.refl _ _).alloc (Nat.le_refl _) _
  rw [← eb0] at hbk0
  have hd20 : DumpIn w.heap.size w20 D0 (.slice Ab0 D0.nw cb0) (.slice As0 D0.slots.length cs0) := hd0.below hb20 (Nat.le_refl _)
  have hbt0 : Below w.heap.size w w20 := hb10.trans (below_up hb20 hb10.size)
  unfold Dm.arr
  rw [← Easq.out, ← Eabl.out, ← Easz.out, ← Easl.out, ← Eag0.out, ← Eag1.out, ← Eag2.out, ← Eag3.out, ← Eafl.out, ← Eamr.out] at e20 hbk0 ⊢
  rw [← ENa.out.1] at e20 hbk0 ⊢
  rw [← ENa.out.2] at e20 hbk0 ⊢
  have HBK0 := Lib.hid hbk0
  have HD0 := Lib.hid hd20
  have HBT0 := Lib.hid hbt0
  have E20 := Lib.hid e20
  have EB0 := Lib.hid (show w10.heap.size = b0 from eb0.symm)
  have hbl0 : b0 < w20.heap.size := hbk0.lt
  have hbg0 : w.heap.size ≤ b0 := by rw [eb0]; exact hb10.size
  clear hd0 hb10 hbk0 hb20 hd20 hbt0 e20 eb0
  have hwr : w.heap.size ≤ w20.heap.size := HBT0.out.size
  go_wp2_with fail
  rw [← E20.out, EB0.out]
  go_loopw [6, 7, 8, 9, 10, 11, 12, 13, 14, 15, 16] (fun rv wv iv _ _ _ _ _ _ _ _ wr => ∃ (i : Nat) (L1 L2 : DL), iv = .int .i64 (i : Nat) ∧ i ≤ 3 ∧ L1.length = i ∧ L2.length = i ∧ wr.ownsRow w20.heap.size 31 12 rv i (flatD L1) ∧ wr.ownsRow w20.heap.size 31 12 wv i (flatD L2) ∧ (∀ g, rv.ownBlock = some g → wv.ownBlock ≠ some g) ∧ Below w20.heap.size w20 wr ∧ PairOk w20.heap.size wr L1 L2 ∧ SepOk L1) (fun _ _ iv _ _ _ _ _ _ _ _ _ => 3 - (intOf iv).toNat)
  case atStart => exact ⟨0, [], [], rfl, by omega, rfl, rfl, ⟨rfl, .inl ⟨rfl, rfl⟩⟩, ⟨rfl, .inl ⟨rfl, rfl⟩⟩, fun g hg => by simp [Value.ownBlock] at hg, Below.refl _ _, fun j x y hx => by simp at hx, fun i j x y g _ hx => by simp at hx⟩
  case round =>
    obtain ⟨i, L1, L2, rfl, hi, hl1, hl2, o1, o2, hdj, hb, hpo, hsp⟩ := hrel
    obtain ⟨A1, c1, rfl⟩ := own_sl o1
    obtain ⟨A2, c2, rfl⟩ := own_sl o2
    have HBWR := Lib.hid (HBT0.out.trans (below_up hb hwr))
    have hsz : w20.heap.size ≤ wr.heap.size := hb.size
    have HB := Lib.hid hb
    have O1 := Lib.hid o1
    have O2 := Lib.hid o2
    have HREST := Lib.hid (And.intro hl1 (And.intro hl2 (And.intro hdj (And.intro hpo hsp))))
    clear hl1 hl2 o1 o2 hdj hb hpo hsp
    by_cases hlt : i < 3
    · have d3 : decide ((i : Int) < 3) = true := decide_eq_true (by omega)
      by_cases hi1 : i = 1
      · subst hi1
        obtain ⟨HALF, eH⟩ : ∃ x, x = s.size / 2 := ⟨_, rfl⟩
        have htd : Int.tdiv ((s.size : Nat) : Int) 2 = (HALF : Int) := by rw [eH, Int.tdiv_eq_ediv_of_nonneg (by omega)]; omega
        have hHl : HALF ≤ s.size := by omega
        clear eH
        go_wp2_with fail
        refine (HPP.out wr HBWR.out (s.extract 0 HALF) (by rw [ByteArray.size_extract]; omega)).mono ?_
        rintro e w1A ⟨hb1A, vbA, vsA, rfl, hdA⟩
        have hsh := outP_short (s.extract 0 HALF)
        obtain ⟨Dt, Pt, Et, eO⟩ : ∃ D P E, outP (s.extract 0 HALF) = (D, P, E) := ⟨_, _, _, rfl⟩
        rw [eO] at hdA hsh ⊢
        have EOt := Lib.hid eO
        obtain ⟨nbt, enb⟩ : ∃ x, x = Dt.nw := ⟨_, rfl⟩
        obtain ⟨nst, ens⟩ : ∃ x, x = Dt.slots.length := ⟨_, rfl⟩
        have ENt := Lib.hid (And.intro enb ens)
        have HSHt := Lib.hid hsh
        clear eO hsh enb ens
        obtain ⟨tsq, etsq⟩ : ∃ z, z = Dt.sq := ⟨_, rfl⟩
        have Etsq := Lib.hid etsq
        obtain ⟨tbl, etbl⟩ : ∃ z, z = Dt.bl := ⟨_, rfl⟩
        have Etbl := Lib.hid etbl
        obtain ⟨tsz, etsz⟩ : ∃ z, z = Dt.sz := ⟨_, rfl⟩
        have Etsz := Lib.hid etsz
        obtain ⟨tsl, etsl⟩ : ∃ z, z = Dt.sl := ⟨_, rfl⟩
        have Etsl := Lib.hid etsl
        obtain ⟨tg0, etg0⟩ : ∃ z, z = Dt.g0 := ⟨_, rfl⟩
        have Etg0 := Lib.hid etg0
        obtain ⟨tg1, etg1⟩ : ∃ z, z = Dt.g1 := ⟨_, rfl⟩
        have Etg1 := Lib.hid etg1
        obtain ⟨tg2, etg2⟩ : ∃ z, z = Dt.g2 := ⟨_, rfl⟩
        have Etg2 := Lib.hid etg2
        obtain ⟨tg3, etg3⟩ : ∃ z, z = Dt.g3 := ⟨_, rfl⟩
        have Etg3 := Lib.hid etg3
        obtain ⟨tfl, etfl⟩ : ∃ z, z = Dt.fl := ⟨_, rfl⟩
        have Etfl := Lib.hid etfl
        obtain ⟨tmr, etmr⟩ : ∃ z, z = Dt.mr := ⟨_, rfl⟩
        have Etmr := Lib.hid etmr
        clear etsq etbl etsz etsl etg0 etg1 etg2 etg3 etfl etmr
        obtain ⟨AbA, cbA, rfl⟩ := own_sl hdA.1
        obtain ⟨AsA, csA, rfl⟩ := own_sl hdA.2
        obtain ⟨bA, ebA⟩ : ∃ x, x = w1A.heap.size := ⟨_, rfl⟩
        obtain ⟨w2A, e2A⟩ : ∃ x, x = w1A.alloc (.cells #[.int .u64 (Dt.sq : Nat), .int .i64 (Dt.bl : Nat), .int .i64 (Dt.sz : Nat), .int .i64 (Dt.sl : Nat), .int .u64 (Dt.g0 : Nat), .int .u64 (Dt.g1 : Nat), .int .u64 (Dt.g2 : Nat), .int .u64 (Dt.g3 : Nat), .int .u32 (Dt.fl : Nat), .int .i64 (Dt.mr : Nat), .slice AbA Dt.nw cbA, .slice AsA Dt.slots.length csA] 31) := ⟨_, rfl⟩
        have hbkA : Blk w2A w1A.heap.size 31 #[.int .u64 (Dt.sq : Nat), .int .i64 (Dt.bl : Nat), .int .i64 (Dt.sz : Nat), .int .i64 (Dt.sl : Nat), .int .u64 (Dt.g0 : Nat), .int .u64 (Dt.g1 : Nat), .int .u64 (Dt.g2 : Nat), .int .u64 (Dt.g3 : Nat), .int .u32 (Dt.fl : Nat), .int .i64 (Dt.mr : Nat), .slice AbA Dt.nw cbA, .slice AsA Dt.slots.length csA] := by rw [e2A]; exact Blk.new _ _ _
        have hb2A : Below w1A.heap.size w1A w2A := by rw [e2A]; exact (Below.refl _ _).alloc (Nat.le_refl _) _
        rw [← ebA] at hbkA
        have hd2A : DumpIn wr.heap.size w2A Dt (.slice AbA Dt.nw cbA) (.slice AsA Dt.slots.length csA) := hdA.below hb2A (Nat.le_refl _)
        have hbtA : Below wr.heap.size wr w2A := hb1A.trans (below_up hb2A hb1A.size)
        unfold Dm.arr
        rw [← Etsq.out, ← Etbl.out, ← Etsz.out, ← Etsl.out, ← Etg0.out, ← Etg1.out, ← Etg2.out, ← Etg3.out, ← Etfl.out, ← Etmr.out] at e2A hbkA ⊢
        rw [← ENt.out.1] at e2A hbkA ⊢
        rw [← ENt.out.2] at e2A hbkA ⊢
        have HBKA := Lib.hid hbkA
        have HDA := Lib.hid hd2A
        have HBTA := Lib.hid hbtA
        have E2A := Lib.hid e2A
        have EBA := Lib.hid (show w1A.heap.size = bA from ebA.symm)
        have hblA : bA < w2A.heap.size := hbkA.lt
        have hbgA : wr.heap.size ≤ bA := by rw [ebA]; exact hb1A.size
        clear hdA hb1A hbkA hb2A hd2A hbtA e2A ebA
        go_wp2_with fail
        rw [← E2A.out, EBA.out]
        refine (HPR.out w2A (s.extract 0 HALF) (by rw [ByteArray.size_extract]; omega)).mono ?_
        rintro e w1C ⟨hb1C, vbC, vsC, rfl, hdC⟩
        rw [EOt.out] at hdC ⊢
        obtain ⟨AbC, cbC, rfl⟩ := own_sl hdC.1
        obtain ⟨AsC, csC, rfl⟩ := own_sl hdC.2
        obtain ⟨bC, ebC⟩ : ∃ x, x = w1C.heap.size := ⟨_, rfl⟩
        obtain ⟨w2C, e2C⟩ : ∃ x, x = w1C.alloc (.cells #[.int .u64 (Dt.sq : Nat), .int .i64 (Dt.bl : Nat), .int .i64 (Dt.sz : Nat), .int .i64 (Dt.sl : Nat), .int .u64 (Dt.g0 : Nat), .int .u64 (Dt.g1 : Nat), .int .u64 (Dt.g2 : Nat), .int .u64 (Dt.g3 : Nat), .int .u32 (Dt.fl : Nat), .int .i64 (Dt.mr : Nat), .slice AbC Dt.nw cbC, .slice AsC Dt.slots.length csC] 31) := ⟨_, rfl⟩
        have hbkC : Blk w2C w1C.heap.size 31 #[.int .u64 (Dt.sq : Nat), .int .i64 (Dt.bl : Nat), .int .i64 (Dt.sz : Nat), .int .i64 (Dt.sl : Nat), .int .u64 (Dt.g0 : Nat), .int .u64 (Dt.g1 : Nat), .int .u64 (Dt.g2 : Nat), .int .u64 (Dt.g3 : Nat), .int .u32 (Dt.fl : Nat), .int .i64 (Dt.mr : Nat), .slice AbC Dt.nw cbC, .slice AsC Dt.slots.length csC] := by rw [e2C]; exact Blk.new _ _ _
        have hb2C : Below w1C.heap.size w1C w2C := by rw [e2C]; exact (Below.refl _ _).alloc (Nat.le_refl _) _
        rw [← ebC] at hbkC
        have hd2C : DumpIn w2A.heap.size w2C Dt (.slice AbC Dt.nw cbC) (.slice AsC Dt.slots.length csC) := hdC.below hb2C (Nat.le_refl _)
        have hbtC : Below w2A.heap.size w2A w2C := hb1C.trans (below_up hb2C hb1C.size)
        unfold Dm.arr
        rw [← Etsq.out, ← Etbl.out, ← Etsz.out, ← Etsl.out, ← Etg0.out, ← Etg1.out, ← Etg2.out, ← Etg3.out, ← Etfl.out, ← Etmr.out] at e2C hbkC ⊢
        rw [← ENt.out.1] at e2C hbkC ⊢
        rw [← ENt.out.2] at e2C hbkC ⊢
        have HBKC := Lib.hid hbkC
        have HDC := Lib.hid hd2C
        have HBTC := Lib.hid hbtC
        have E2C := Lib.hid e2C
        have EBC := Lib.hid (show w1C.heap.size = bC from ebC.symm)
        have hblC : bC < w2C.heap.size := hbkC.lt
        have hbgC : w2A.heap.size ≤ bC := by rw [ebC]; exact hb1C.size
        clear hdC hb1C hbkC hb2C hd2C hbtC e2C ebC
        have HA2 := Lib.hid (show Blk w2C bA 31 #[.int .u64 (tsq : Nat), .int .i64 (tbl : Nat), .int .i64 (tsz : Nat), .int .i64 (tsl : Nat), .int .u64 (tg0 : Nat), .int .u64 (tg1 : Nat), .int .u64 (tg2 : Nat), .int .u64 (tg3 : Nat), .int .u32 (tfl : Nat), .int .i64 (tmr : Nat), .slice AbA nbt cbA, .slice AsA nst csA] from HBKA.out.below HBTC.out hblA)
        have hdA2 : DumpIn wr.heap.size w2C Dt (.slice AbA Dt.nw cbA) (.slice AsA Dt.slots.length csA) := HDA.out.below HBTC.out (Nat.le_refl _)
        have hdC2 : DumpIn wr.heap.size w2C Dt (.slice AbC Dt.nw cbC) (.slice AsC Dt.slots.length csC) := HDC.out.lower HBTA.out.size
        have hSD := sameDump_ok w2C Dt _ _ _ _ HSHt.out.1 HSHt.out.2 hdA2.rdb hdA2.rds hdC2.rdb hdC2.rds
        unfold Dm.arr at hSD
        rw [← Etsq.out, ← Etbl.out, ← Etsz.out, ← Etsl.out, ← Etg0.out, ← Etg1.out, ← Etg2.out, ← Etg3.out, ← Etfl.out, ← Etmr.out, ← ENt.out.1, ← ENt.out.2] at hSD
        have HSD := Lib.hid hSD
        have HDA2 := Lib.hid hdA2
        have HDC2 := Lib.hid hdC2
        have HBB := Lib.hid (HBTA.out.trans (below_up HBTC.out HBTA.out.size))
        clear hSD hdA2 hdC2
        have xa0 : w2C.cell? ⟨bA, 0, none⟩ = some (.int .u64 (tsq : Nat)) := HA2.out.cell 0
        have xa1 : w2C.cell? ⟨bA, 1, none⟩ = some (.int .i64 (tbl : Nat)) := HA2.out.cell 1
        have xa2 : w2C.cell? ⟨bA, 2, none⟩ = some (.int .i64 (tsz : Nat)) := HA2.out.cell 2
        have xa3 : w2C.cell? ⟨bA, 3, none⟩ = some (.int .i64 (tsl : Nat)) := HA2.out.cell 3
        have xa4 : w2C.cell? ⟨bA, 4, none⟩ = some (.int .u64 (tg0 : Nat)) := HA2.out.cell 4
        have xa5 : w2C.cell? ⟨bA, 5, none⟩ = some (.int .u64 (tg1 : Nat)) := HA2.out.cell 5
        have xa6 : w2C.cell? ⟨bA, 6, none⟩ = some (.int .u64 (tg2 : Nat)) := HA2.out.cell 6
        have xa7 : w2C.cell? ⟨bA, 7, none⟩ = some (.int .u64 (tg3 : Nat)) := HA2.out.cell 7
        have xa8 : w2C.cell? ⟨bA, 8, none⟩ = some (.int .u32 (tfl : Nat)) := HA2.out.cell 8
        have xa9 : w2C.cell? ⟨bA, 9, none⟩ = some (.int .i64 (tmr : Nat)) := HA2.out.cell 9
        have xa10 : w2C.cell? ⟨bA, 10, none⟩ = some (.slice AbA nbt cbA) := HA2.out.cell 10
        have xa11 : w2C.cell? ⟨bA, 11, none⟩ = some (.slice AsA nst csA) := HA2.out.cell 11
        have xc0 : w2C.cell? ⟨bC, 0, none⟩ = some (.int .u64 (tsq : Nat)) := HBKC.out.cell 0
        have xc1 : w2C.cell? ⟨bC, 1, none⟩ = some (.int .i64 (tbl : Nat)) := HBKC.out.cell 1
        have xc2 : w2C.cell? ⟨bC, 2, none⟩ = some (.int .i64 (tsz : Nat)) := HBKC.out.cell 2
        have xc3 : w2C.cell? ⟨bC, 3, none⟩ = some (.int .i64 (tsl : Nat)) := HBKC.out.cell 3
        have xc4 : w2C.cell? ⟨bC, 4, none⟩ = some (.int .u64 (tg0 : Nat)) := HBKC.out.cell 4
        have xc5 : w2C.cell? ⟨bC, 5, none⟩ = some (.int .u64 (tg1 : Nat)) := HBKC.out.cell 5
        have xc6 : w2C.cell? ⟨bC, 6, none⟩ = some (.int .u64 (tg2 : Nat)) := HBKC.out.cell 6
        have xc7 : w2C.cell? ⟨bC, 7, none⟩ = some (.int .u64 (tg3 : Nat)) := HBKC.out.cell 7
        have xc8 : w2C.cell? ⟨bC, 8, none⟩ = some (.int .u32 (tfl : Nat)) := HBKC.out.cell 8
        have xc9 : w2C.cell? ⟨bC, 9, none⟩ = some (.int .i64 (tmr : Nat)) := HBKC.out.cell 9
        have xc10 : w2C.cell? ⟨bC, 10, none⟩ = some (.slice AbC nbt cbC) := HBKC.out.cell 10
        have xc11 : w2C.cell? ⟨bC, 11, none⟩ = some (.slice AsC nst csC) := HBKC.out.cell 11
        have hbAC : bA < w2C.heap.size := HA2.out.lt
        go_upto_region 12 with (fail)
        rw [← E2C.out, EBC.out]
        go_wp2_with fail
        refine HSD.out.mono ?_
        rintro e wD ⟨rfl, hbD⟩
        have HAD := Lib.hid (show Blk wD bA 31 #[.int .u64 (tsq : Nat), .int .i64 (tbl : Nat), .int .i64 (tsz : Nat), .int .i64 (tsl : Nat), .int .u64 (tg0 : Nat), .int .u64 (tg1 : Nat), .int .u64 (tg2 : Nat), .int .u64 (tg3 : Nat), .int .u32 (tfl : Nat), .int .i64 (tmr : Nat), .slice AbA nbt cbA, .slice AsA nst csA] from HA2.out.below hbD hbAC)
        have HCD := Lib.hid (show Blk wD bC 31 #[.int .u64 (tsq : Nat), .int .i64 (tbl : Nat), .int .i64 (tsz : Nat), .int .i64 (tsl : Nat), .int .u64 (tg0 : Nat), .int .u64 (tg1 : Nat), .int .u64 (tg2 : Nat), .int .u64 (tg3 : Nat), .int .u32 (tfl : Nat), .int .i64 (tmr : Nat), .slice AbC nbt cbC, .slice AsC nst csC] from HBKC.out.below hbD hblC)
        have hbDD : Below wr.heap.size wr wD := HBB.out.trans (below_up hbD HBB.out.size)
        have HBDD := Lib.hid hbDD
        have OD1 := Lib.hid (show wD.ownsRow w20.heap.size 31 12 (.slice A1 1 c1) 1 (flatD L1) from own_keep2 O1.out (fun g hg => hbDD.block g (O1.out.lt g hg).2))
        have OD2 := Lib.hid (show wD.ownsRow w20.heap.size 31 12 (.slice A2 1 c2) 1 (flatD L2) from own_keep2 O2.out (fun g hg => hbDD.block g (O2.out.lt g hg).2))
        have HDAD := Lib.hid (HDA2.out.below hbD (Nat.le_refl _))
        have HDCD := Lib.hid (HDC2.out.below hbD (Nat.le_refl _))
        have hwD : w20.heap.size ≤ wD.heap.size := Nat.le_trans hsz hbDD.size
        have hbAD : bA < wD.heap.size := HAD.out.lt
        have hbCD : bC < wD.heap.size := HCD.out.lt
        clear hbD hbDD xa0 xc0 xa1 xc1 xa2 xc2 xa3 xc3 xa4 xc4 xa5 xc5 xa6 xc6 xa7 xc7 xa8 xc8 xa9 xc9 xa10 xc10 xa11 xc11
        have xa0 : wD.cell? ⟨bA, 0, none⟩ = some (.int .u64 (tsq : Nat)) := HAD.out.cell 0
        have xa1 : wD.cell? ⟨bA, 1, none⟩ = some (.int .i64 (tbl : Nat)) := HAD.out.cell 1
        have xa2 : wD.cell? ⟨bA, 2, none⟩ = some (.int .i64 (tsz : Nat)) := HAD.out.cell 2
        have xa3 : wD.cell? ⟨bA, 3, none⟩ = some (.int .i64 (tsl : Nat)) := HAD.out.cell 3
        have xa4 : wD.cell? ⟨bA, 4, none⟩ = some (.int .u64 (tg0 : Nat)) := HAD.out.cell 4
        have xa5 : wD.cell? ⟨bA, 5, none⟩ = some (.int .u64 (tg1 : Nat)) := HAD.out.cell 5
        have xa6 : wD.cell? ⟨bA, 6, none⟩ = some (.int .u64 (tg2 : Nat)) := HAD.out.cell 6
        have xa7 : wD.cell? ⟨bA, 7, none⟩ = some (.int .u64 (tg3 : Nat)) := HAD.out.cell 7
        have xa8 : wD.cell? ⟨bA, 8, none⟩ = some (.int .u32 (tfl : Nat)) := HAD.out.cell 8
        have xa9 : wD.cell? ⟨bA, 9, none⟩ = some (.int .i64 (tmr : Nat)) := HAD.out.cell 9
        have xa10 : wD.cell? ⟨bA, 10, none⟩ = some (.slice AbA nbt cbA) := HAD.out.cell 10
        have xa11 : wD.cell? ⟨bA, 11, none⟩ = some (.slice AsA nst csA) := HAD.out.cell 11
        go_wp2_with (with_reducible refine app12at rfl (.tmp 69) (.tmp 71) 35 rfl w20.heap.size 31 (.agg #[.int .u64 0, .int .i64 0, .int .i64 0, .int .i64 0, .int .u64 0, .int .u64 0, .int .u64 0, .int .u64 0, .int .u32 0, .int .i64 0, .slice none 0 0, .slice none 0 0]) 128 Tryd.underlying35 info_dump rfl (.slice A1 1 c1) 1 (flatD L1) rfl OD1.out [.int .u64 (tsq : Nat), .int .i64 (tbl : Nat), .int .i64 (tsz : Nat), .int .i64 (tsl : Nat), .int .u64 (tg0 : Nat), .int .u64 (tg1 : Nat), .int .u64 (tg2 : Nat), .int .u64 (tg3 : Nat), .int .u32 (tfl : Nat), .int .i64 (tmr : Nat), .slice AbA nbt cbA, .slice AsA nst csA] rfl 1 rfl ?c0 ?c1 ?c2 hwD ?_)
        case c0 => simp [Value.oneCell']
        case c1 => unfold maxLen; omega
        case c2 => omega
        intro v4 wE hoE hgE hlE
        obtain ⟨hl1, hl2, hdj, hpo, hsp⟩ := HREST.out
        have HCE := Lib.hid (show Blk wE bC 31 #[.int .u64 (tsq : Nat), .int .i64 (tbl : Nat), .int .i64 (tsz : Nat), .int .i64 (tsl : Nat), .int .u64 (tg0 : Nat), .int .u64 (tg1 : Nat), .int .u64 (tg2 : Nat), .int .u64 (tg3 : Nat), .int .u32 (tfl : Nat), .int .i64 (tmr : Nat), .slice AbC nbt cbC, .slice AsC nst csC] from (hgE.block bC hbCD (fun h => by have h8 := (O1.out.lt bC h.symm).2; have h9 := HBTA.out.size; omega)).trans HCD.out)
        have OE2 := Lib.hid (show wE.ownsRow w20.heap.size 31 12 (.slice A2 1 c2) 1 (flatD L2) from own_keep2 OD2.out (fun g hg => hgE.block g (OD2.out.lt g hg).2 (fun h => hdj g h.symm hg)))
        have hwE : w20.heap.size ≤ wE.heap.size := Nat.le_trans hwD hgE.size
        have hbCE : bC < wE.heap.size := HCE.out.lt
        have HOE := Lib.hid (show wE.ownsRow w20.heap.size 31 12 v4 (1 + 1) (flatD L1 ++ (Dt.arr (.slice AbA Dt.nw cbA) (.slice AsA Dt.slots.length csA)).toList) from by
          unfold Dm.arr
          rw [← Etsq.out, ← Etbl.out, ← Etsz.out, ← Etsl.out, ← Etg0.out, ← Etg1.out, ← Etg2.out, ← Etg3.out, ← Etfl.out, ← Etmr.out, ← ENt.out.1, ← ENt.out.2]
          exact hoE)
        have HGE := Lib.hid (And.intro hgE hlE)
        clear hoE hgE hlE hl1 hl2 hdj hpo hsp xa0 xa1 xa2 xa3 xa4 xa5 xa6 xa7 xa8 xa9 xa10 xa11
        have xc0 : wE.cell? ⟨bC, 0, none⟩ = some (.int .u64 (tsq : Nat)) := HCE.out.cell 0
        have xc1 : wE.cell? ⟨bC, 1, none⟩ = some (.int .i64 (tbl : Nat)) := HCE.out.cell 1
        have xc2 : wE.cell? ⟨bC, 2, none⟩ = some (.int .i64 (tsz : Nat)) := HCE.out.cell 2
        have xc3 : wE.cell? ⟨bC, 3, none⟩ = some (.int .i64 (tsl : Nat)) := HCE.out.cell 3
        have xc4 : wE.cell? ⟨bC, 4, none⟩ = some (.int .u64 (tg0 : Nat)) := HCE.out.cell 4
        have xc5 : wE.cell? ⟨bC, 5, none⟩ = some (.int .u64 (tg1 : Nat)) := HCE.out.cell 5
        have xc6 : wE.cell? ⟨bC, 6, none⟩ = some (.int .u64 (tg2 : Nat)) := HCE.out.cell 6
        have xc7 : wE.cell? ⟨bC, 7, none⟩ = some (.int .u64 (tg3 : Nat)) := HCE.out.cell 7
        have xc8 : wE.cell? ⟨bC, 8, none⟩ = some (.int .u32 (tfl : Nat)) := HCE.out.cell 8
        have xc9 : wE.cell? ⟨bC, 9, none⟩ = some (.int .i64 (tmr : Nat)) := HCE.out.cell 9
        have xc10 : wE.cell? ⟨bC, 10, none⟩ = some (.slice AbC nbt cbC) := HCE.out.cell 10
        have xc11 : wE.cell? ⟨bC, 11, none⟩ = some (.slice AsC nst csC) := HCE.out.cell 11
        go_wp2_with (with_reducible refine app12at rfl (.tmp 73) (.tmp 75) 35 rfl w20.heap.size 31 (.agg #[.int .u64 0, .int .i64 0, .int .i64 0, .int .i64 0, .int .u64 0, .int .u64 0, .int .u64 0, .int .u64 0, .int .u32 0, .int .i64 0, .slice none 0 0, .slice none 0 0]) 128 Tryd.underlying35 info_dump rfl (.slice A2 1 c2) 1 (flatD L2) rfl OE2.out [.int .u64 (tsq : Nat), .int .i64 (tbl : Nat), .int .i64 (tsz : Nat), .int .i64 (tsl : Nat), .int .u64 (tg0 : Nat), .int .u64 (tg1 : Nat), .int .u64 (tg2 : Nat), .int .u64 (tg3 : Nat), .int .u32 (tfl : Nat), .int .i64 (tmr : Nat), .slice AbC nbt cbC, .slice AsC nst csC] rfl 1 rfl ?c0 ?c1 ?c2 hwE ?_)
        case c0 => simp [Value.oneCell']
        case c1 => unfold maxLen; omega
        case c2 => omega
        intro v5 wF hoF hgF hlF
        have hoF' : wF.ownsRow w20.heap.size 31 12 v5 (1 + 1) (flatD L2 ++ (Dt.arr (.slice AbC Dt.nw cbC) (.slice AsC Dt.slots.length csC)).toList) := by
          unfold Dm.arr
          rw [← Etsq.out, ← Etbl.out, ← Etsz.out, ← Etsl.out, ← Etg0.out, ← Etg1.out, ← Etg2.out, ← Etg3.out, ← Etfl.out, ← Etmr.out, ← ENt.out.1, ← ENt.out.2]
          exact hoF
        obtain ⟨hl1, hl2, hdj, hpo, hsp⟩ := HREST.out
        obtain ⟨L1', L2', q1, q2, q3, q4, q5, q6, q7, q8⟩ := round_ok hl1 hl2 hsz O1.out O2.out hdj HBDD.out hpo hsp HDAD.out HDCD.out HSHt.out.1 HSHt.out.2 HOE.out HGE.out.1 HGE.out.2 hoF' hgF hlF
        have HR := Lib.hid (And.intro q1 (And.intro q2 (And.intro q3 (And.intro q4 (And.intro q5 (And.intro (HB.out.trans q6) (And.intro q7 q8)))))))
        clear hoF hoF' hgF hlF hl1 hl2 hdj hpo hsp q1 q2 q3 q4 q5 q6 q7 q8 xc0 xc1 xc2 xc3 xc4 xc5 xc6 xc7 xc8 xc9 xc10 xc11
        go_wp2_with fail
        go_roundw
        case rel => first | exact ⟨1 + 1, L1', L2', by first | rfl | go_num, by omega, HR.out⟩ | ((repeat apply Exists.intro); refine ⟨?_, rfl⟩; exact ⟨1 + 1, L1', L2', by first | rfl | go_num, by omega, HR.out⟩)
        case measure => simp [intOf] <;> omega
      · have hi1f : ((i : Int) == 1) = false := by rw [beq_eq_false_iff_ne]; omega
        go_wp2_with fail
        refine (HPP.out wr HBWR.out (s) hs).mono ?_
        rintro e w1A ⟨hb1A, vbA, vsA, rfl, hdA⟩
        have hsh := outP_short (s)
        obtain ⟨Dt, Pt, Et, eO⟩ : ∃ D P E, outP (s) = (D, P, E) := ⟨_, _, _, rfl⟩
        rw [eO] at hdA hsh ⊢
        have EOt := Lib.hid eO
        obtain ⟨nbt, enb⟩ : ∃ x, x = Dt.nw := ⟨_, rfl⟩
        obtain ⟨nst, ens⟩ : ∃ x, x = Dt.slots.length := ⟨_, rfl⟩
        have ENt := Lib.hid (And.intro enb ens)
        have HSHt := Lib.hid hsh
        clear eO hsh enb ens
        obtain ⟨tsq, etsq⟩ : ∃ z, z = Dt.sq := ⟨_, rfl⟩
        have Etsq := Lib.hid etsq
        obtain ⟨tbl, etbl⟩ : ∃ z, z = Dt.bl := ⟨_, rfl⟩
        have Etbl := Lib.hid etbl
        obtain ⟨tsz, etsz⟩ : ∃ z, z = Dt.sz := ⟨_, rfl⟩
        have Etsz := Lib.hid etsz
        obtain ⟨tsl, etsl⟩ : ∃ z, z = Dt.sl := ⟨_, rfl⟩
        have Etsl := Lib.hid etsl
        obtain ⟨tg0, etg0⟩ : ∃ z, z = Dt.g0 := ⟨_, rfl⟩
        have Etg0 := Lib.hid etg0
        obtain ⟨tg1, etg1⟩ : ∃ z, z = Dt.g1 := ⟨_, rfl⟩
        have Etg1 := Lib.hid etg1
        obtain ⟨tg2, etg2⟩ : ∃ z, z = Dt.g2 := ⟨_, rfl⟩
        have Etg2 := Lib.hid etg2
        obtain ⟨tg3, etg3⟩ : ∃ z, z = Dt.g3 := ⟨_, rfl⟩
        have Etg3 := Lib.hid etg3
        obtain ⟨tfl, etfl⟩ : ∃ z, z = Dt.fl := ⟨_, rfl⟩
        have Etfl := Lib.hid etfl
        obtain ⟨tmr, etmr⟩ : ∃ z, z = Dt.mr := ⟨_, rfl⟩
        have Etmr := Lib.hid etmr
        clear etsq etbl etsz etsl etg0 etg1 etg2 etg3 etfl etmr
        obtain ⟨AbA, cbA, rfl⟩ := own_sl hdA.1
        obtain ⟨AsA, csA, rfl⟩ := own_sl hdA.2
        obtain ⟨bA, ebA⟩ : ∃ x, x = w1A.heap.size := ⟨_, rfl⟩
        obtain ⟨w2A, e2A⟩ : ∃ x, x = w1A.alloc (.cells #[.int .u64 (Dt.sq : Nat), .int .i64 (Dt.bl : Nat), .int .i64 (Dt.sz : Nat), .int .i64 (Dt.sl : Nat), .int .u64 (Dt.g0 : Nat), .int .u64 (Dt.g1 : Nat), .int .u64 (Dt.g2 : Nat), .int .u64 (Dt.g3 : Nat), .int .u32 (Dt.fl : Nat), .int .i64 (Dt.mr : Nat), .slice AbA Dt.nw cbA, .slice AsA Dt.slots.length csA] 31) := ⟨_, rfl⟩
        have hbkA : Blk w2A w1A.heap.size 31 #[.int .u64 (Dt.sq : Nat), .int .i64 (Dt.bl : Nat), .int .i64 (Dt.sz : Nat), .int .i64 (Dt.sl : Nat), .int .u64 (Dt.g0 : Nat), .int .u64 (Dt.g1 : Nat), .int .u64 (Dt.g2 : Nat), .int .u64 (Dt.g3 : Nat), .int .u32 (Dt.fl : Nat), .int .i64 (Dt.mr : Nat), .slice AbA Dt.nw cbA, .slice AsA Dt.slots.length csA] := by rw [e2A]; exact Blk.new _ _ _
        have hb2A : Below w1A.heap.size w1A w2A := by rw [e2A]; exact (Below.refl _ _).alloc (Nat.le_refl _) _
        rw [← ebA] at hbkA
        have hd2A : DumpIn wr.heap.size w2A Dt (.slice AbA Dt.nw cbA) (.slice AsA Dt.slots.length csA) := hdA.below hb2A (Nat.le_refl _)
        have hbtA : Below wr.heap.size wr w2A := hb1A.trans (below_up hb2A hb1A.size)
        unfold Dm.arr
        rw [← Etsq.out, ← Etbl.out, ← Etsz.out, ← Etsl.out, ← Etg0.out, ← Etg1.out, ← Etg2.out, ← Etg3.out, ← Etfl.out, ← Etmr.out] at e2A hbkA ⊢
        rw [← ENt.out.1] at e2A hbkA ⊢
        rw [← ENt.out.2] at e2A hbkA ⊢
        have HBKA := Lib.hid hbkA
        have HDA := Lib.hid hd2A
        have HBTA := Lib.hid hbtA
        have E2A := Lib.hid e2A
        have EBA := Lib.hid (show w1A.heap.size = bA from ebA.symm)
        have hblA : bA < w2A.heap.size := hbkA.lt
        have hbgA : wr.heap.size ≤ bA := by rw [ebA]; exact hb1A.size
        clear hdA hb1A hbkA hb2A hd2A hbtA e2A ebA
        go_wp2_with fail
        rw [← E2A.out, EBA.out]
        refine (HPR.out w2A (s) hs).mono ?_
        rintro e w1C ⟨hb1C, vbC, vsC, rfl, hdC⟩
        rw [EOt.out] at hdC ⊢
        obtain ⟨AbC, cbC, rfl⟩ := own_sl hdC.1
        obtain ⟨AsC, csC, rfl⟩ := own_sl hdC.2
        obtain ⟨bC, ebC⟩ : ∃ x, x = w1C.heap.size := ⟨_, rfl⟩
        obtain ⟨w2C, e2C⟩ : ∃ x, x = w1C.alloc (.cells #[.int .u64 (Dt.sq : Nat), .int .i64 (Dt.bl : Nat), .int .i64 (Dt.sz : Nat), .int .i64 (Dt.sl : Nat), .int .u64 (Dt.g0 : Nat), .int .u64 (Dt.g1 : Nat), .int .u64 (Dt.g2 : Nat), .int .u64 (Dt.g3 : Nat), .int .u32 (Dt.fl : Nat), .int .i64 (Dt.mr : Nat), .slice AbC Dt.nw cbC, .slice AsC Dt.slots.length csC] 31) := ⟨_, rfl⟩
        have hbkC : Blk w2C w1C.heap.size 31 #[.int .u64 (Dt.sq : Nat), .int .i64 (Dt.bl : Nat), .int .i64 (Dt.sz : Nat), .int .i64 (Dt.sl : Nat), .int .u64 (Dt.g0 : Nat), .int .u64 (Dt.g1 : Nat), .int .u64 (Dt.g2 : Nat), .int .u64 (Dt.g3 : Nat), .int .u32 (Dt.fl : Nat), .int .i64 (Dt.mr : Nat), .slice AbC Dt.nw cbC, .slice AsC Dt.slots.length csC] := by rw [e2C]; exact Blk.new _ _ _
        have hb2C : Below w1C.heap.size w1C w2C := by rw [e2C]; exact (Below.refl _ _).alloc (Nat.le_refl _) _
        rw [← ebC] at hbkC
        have hd2C : DumpIn w2A.heap.size w2C Dt (.slice AbC Dt.nw cbC) (.slice AsC Dt.slots.length csC) := hdC.below hb2C (Nat.le_refl _)
        have hbtC : Below w2A.heap.size w2A w2C := hb1C.trans (below_up hb2C hb1C.size)
        unfold Dm.arr
        rw [← Etsq.out, ← Etbl.out, ← Etsz.out, ← Etsl.out, ← Etg0.out, ← Etg1.out, ← Etg2.out, ← Etg3.out, ← Etfl.out, ← Etmr.out] at e2C hbkC ⊢
        rw [← ENt.out.1] at e2C hbkC ⊢
        rw [← ENt.out.2] at e2C hbkC ⊢
        have HBKC := Lib.hid hbkC
        have HDC := Lib.hid hd2C
        have HBTC := Lib.hid hbtC
        have E2C := Lib.hid e2C
        have EBC := Lib.hid (show w1C.heap.size = bC from ebC.symm)
        have hblC : bC < w2C.heap.size := hbkC.lt
        have hbgC : w2A.heap.size ≤ bC := by rw [ebC]; exact hb1C.size
        clear hdC hb1C hbkC hb2C hd2C hbtC e2C ebC
        have HA2 := Lib.hid (show Blk w2C bA 31 #[.int .u64 (tsq : Nat), .int .i64 (tbl : Nat), .int .i64 (tsz : Nat), .int .i64 (tsl : Nat), .int .u64 (tg0 : Nat), .int .u64 (tg1 : Nat), .int .u64 (tg2 : Nat), .int .u64 (tg3 : Nat), .int .u32 (tfl : Nat), .int .i64 (tmr : Nat), .slice AbA nbt cbA, .slice AsA nst csA] from HBKA.out.below HBTC.out hblA)
        have hdA2 : DumpIn wr.heap.size w2C Dt (.slice AbA Dt.nw cbA) (.slice AsA Dt.slots.length csA) := HDA.out.below HBTC.out (Nat.le_refl _)
        have hdC2 : DumpIn wr.heap.size w2C Dt (.slice AbC Dt.nw cbC) (.slice AsC Dt.slots.length csC) := HDC.out.lower HBTA.out.size
        have hSD := sameDump_ok w2C Dt _ _ _ _ HSHt.out.1 HSHt.out.2 hdA2.rdb hdA2.rds hdC2.rdb hdC2.rds
        unfold Dm.arr at hSD
        rw [← Etsq.out, ← Etbl.out, ← Etsz.out, ← Etsl.out, ← Etg0.out, ← Etg1.out, ← Etg2.out, ← Etg3.out, ← Etfl.out, ← Etmr.out, ← ENt.out.1, ← ENt.out.2] at hSD
        have HSD := Lib.hid hSD
        have HDA2 := Lib.hid hdA2
        have HDC2 := Lib.hid hdC2
        have HBB := Lib.hid (HBTA.out.trans (below_up HBTC.out HBTA.out.size))
        clear hSD hdA2 hdC2
        have xa0 : w2C.cell? ⟨bA, 0, none⟩ = some (.int .u64 (tsq : Nat)) := HA2.out.cell 0
        have xa1 : w2C.cell? ⟨bA, 1, none⟩ = some (.int .i64 (tbl : Nat)) := HA2.out.cell 1
        have xa2 : w2C.cell? ⟨bA, 2, none⟩ = some (.int .i64 (tsz : Nat)) := HA2.out.cell 2
        have xa3 : w2C.cell? ⟨bA, 3, none⟩ = some (.int .i64 (tsl : Nat)) := HA2.out.cell 3
        have xa4 : w2C.cell? ⟨bA, 4, none⟩ = some (.int .u64 (tg0 : Nat)) := HA2.out.cell 4
        have xa5 : w2C.cell? ⟨bA, 5, none⟩ = some (.int .u64 (tg1 : Nat)) := HA2.out.cell 5
        have xa6 : w2C.cell? ⟨bA, 6, none⟩ = some (.int .u64 (tg2 : Nat)) := HA2.out.cell 6
        have xa7 : w2C.cell? ⟨bA, 7, none⟩ = some (.int .u64 (tg3 : Nat)) := HA2.out.cell 7
        have xa8 : w2C.cell? ⟨bA, 8, none⟩ = some (.int .u32 (tfl : Nat)) := HA2.out.cell 8
        have xa9 : w2C.cell? ⟨bA, 9, none⟩ = some (.int .i64 (tmr : Nat)) := HA2.out.cell 9
        have xa10 : w2C.cell? ⟨bA, 10, none⟩ = some (.slice AbA nbt cbA) := HA2.out.cell 10
        have xa11 : w2C.cell? ⟨bA, 11, none⟩ = some (.slice AsA nst csA) := HA2.out.cell 11
        have xc0 : w2C.cell? ⟨bC, 0, none⟩ = some (.int .u64 (tsq : Nat)) := HBKC.out.cell 0
        have xc1 : w2C.cell? ⟨bC, 1, none⟩ = some (.int .i64 (tbl : Nat)) := HBKC.out.cell 1
        have xc2 : w2C.cell? ⟨bC, 2, none⟩ = some (.int .i64 (tsz : Nat)) := HBKC.out.cell 2
        have xc3 : w2C.cell? ⟨bC, 3, none⟩ = some (.int .i64 (tsl : Nat)) := HBKC.out.cell 3
        have xc4 : w2C.cell? ⟨bC, 4, none⟩ = some (.int .u64 (tg0 : Nat)) := HBKC.out.cell 4
        have xc5 : w2C.cell? ⟨bC, 5, none⟩ = some (.int .u64 (tg1 : Nat)) := HBKC.out.cell 5
        have xc6 : w2C.cell? ⟨bC, 6, none⟩ = some (.int .u64 (tg2 : Nat)) := HBKC.out.cell 6
        have xc7 : w2C.cell? ⟨bC, 7, none⟩ = some (.int .u64 (tg3 : Nat)) := HBKC.out.cell 7
        have xc8 : w2C.cell? ⟨bC, 8, none⟩ = some (.int .u32 (tfl : Nat)) := HBKC.out.cell 8
        have xc9 : w2C.cell? ⟨bC, 9, none⟩ = some (.int .i64 (tmr : Nat)) := HBKC.out.cell 9
        have xc10 : w2C.cell? ⟨bC, 10, none⟩ = some (.slice AbC nbt cbC) := HBKC.out.cell 10
        have xc11 : w2C.cell? ⟨bC, 11, none⟩ = some (.slice AsC nst csC) := HBKC.out.cell 11
        have hbAC : bA < w2C.heap.size := HA2.out.lt
        go_upto_region 12 with (fail)
        rw [← E2C.out, EBC.out]
        go_wp2_with fail
        refine HSD.out.mono ?_
        rintro e wD ⟨rfl, hbD⟩
        have HAD := Lib.hid (show Blk wD bA 31 #[.int .u64 (tsq : Nat), .int .i64 (tbl : Nat), .int .i64 (tsz : Nat), .int .i64 (tsl : Nat), .int .u64 (tg0 : Nat), .int .u64 (tg1 : Nat), .int .u64 (tg2 : Nat), .int .u64 (tg3 : Nat), .int .u32 (tfl : Nat), .int .i64 (tmr : Nat), .slice AbA nbt cbA, .slice AsA nst csA] from HA2.out.below hbD hbAC)
        have HCD := Lib.hid (show Blk wD bC 31 #[.int .u64 (tsq : Nat), .int .i64 (tbl : Nat), .int .i64 (tsz : Nat), .int .i64 (tsl : Nat), .int .u64 (tg0 : Nat), .int .u64 (tg1 : Nat), .int .u64 (tg2 : Nat), .int .u64 (tg3 : Nat), .int .u32 (tfl : Nat), .int .i64 (tmr : Nat), .slice AbC nbt cbC, .slice AsC nst csC] from HBKC.out.below hbD hblC)
        have hbDD : Below wr.heap.size wr wD := HBB.out.trans (below_up hbD HBB.out.size)
        have HBDD := Lib.hid hbDD
        have OD1 := Lib.hid (show wD.ownsRow w20.heap.size 31 12 (.slice A1 i c1) i (flatD L1) from own_keep2 O1.out (fun g hg => hbDD.block g (O1.out.lt g hg).2))
        have OD2 := Lib.hid (show wD.ownsRow w20.heap.size 31 12 (.slice A2 i c2) i (flatD L2) from own_keep2 O2.out (fun g hg => hbDD.block g (O2.out.lt g hg).2))
        have HDAD := Lib.hid (HDA2.out.below hbD (Nat.le_refl _))
        have HDCD := Lib.hid (HDC2.out.below hbD (Nat.le_refl _))
        have hwD : w20.heap.size ≤ wD.heap.size := Nat.le_trans hsz hbDD.size
        have hbAD : bA < wD.heap.size := HAD.out.lt
        have hbCD : bC < wD.heap.size := HCD.out.lt
        clear hbD hbDD xa0 xc0 xa1 xc1 xa2 xc2 xa3 xc3 xa4 xc4 xa5 xc5 xa6 xc6 xa7 xc7 xa8 xc8 xa9 xc9 xa10 xc10 xa11 xc11
        have xa0 : wD.cell? ⟨bA, 0, none⟩ = some (.int .u64 (tsq : Nat)) := HAD.out.cell 0
        have xa1 : wD.cell? ⟨bA, 1, none⟩ = some (.int .i64 (tbl : Nat)) := HAD.out.cell 1
        have xa2 : wD.cell? ⟨bA, 2, none⟩ = some (.int .i64 (tsz : Nat)) := HAD.out.cell 2
        have xa3 : wD.cell? ⟨bA, 3, none⟩ = some (.int .i64 (tsl : Nat)) := HAD.out.cell 3
        have xa4 : wD.cell? ⟨bA, 4, none⟩ = some (.int .u64 (tg0 : Nat)) := HAD.out.cell 4
        have xa5 : wD.cell? ⟨bA, 5, none⟩ = some (.int .u64 (tg1 : Nat)) := HAD.out.cell 5
        have xa6 : wD.cell? ⟨bA, 6, none⟩ = some (.int .u64 (tg2 : Nat)) := HAD.out.cell 6
        have xa7 : wD.cell? ⟨bA, 7, none⟩ = some (.int .u64 (tg3 : Nat)) := HAD.out.cell 7
        have xa8 : wD.cell? ⟨bA, 8, none⟩ = some (.int .u32 (tfl : Nat)) := HAD.out.cell 8
        have xa9 : wD.cell? ⟨bA, 9, none⟩ = some (.int .i64 (tmr : Nat)) := HAD.out.cell 9
        have xa10 : wD.cell? ⟨bA, 10, none⟩ = some (.slice AbA nbt cbA) := HAD.out.cell 10
        have xa11 : wD.cell? ⟨bA, 11, none⟩ = some (.slice AsA nst csA) := HAD.out.cell 11
        go_wp2_with (with_reducible refine app12at rfl (.tmp 69) (.tmp 71) 35 rfl w20.heap.size 31 (.agg #[.int .u64 0, .int .i64 0, .int .i64 0, .int .i64 0, .int .u64 0, .int .u64 0, .int .u64 0, .int .u64 0, .int .u32 0, .int .i64 0, .slice none 0 0, .slice none 0 0]) 128 Tryd.underlying35 info_dump rfl (.slice A1 i c1) i (flatD L1) rfl OD1.out [.int .u64 (tsq : Nat), .int .i64 (tbl : Nat), .int .i64 (tsz : Nat), .int .i64 (tsl : Nat), .int .u64 (tg0 : Nat), .int .u64 (tg1 : Nat), .int .u64 (tg2 : Nat), .int .u64 (tg3 : Nat), .int .u32 (tfl : Nat), .int .i64 (tmr : Nat), .slice AbA nbt cbA, .slice AsA nst csA] rfl 1 rfl ?c0 ?c1 ?c2 hwD ?_)
        case c0 => simp [Value.oneCell']
        case c1 => unfold maxLen; omega
        case c2 => omega
        intro v4 wE hoE hgE hlE
        obtain ⟨hl1, hl2, hdj, hpo, hsp⟩ := HREST.out
        have HCE := Lib.hid (show Blk wE bC 31 #[.int .u64 (tsq : Nat), .int .i64 (tbl : Nat), .int .i64 (tsz : Nat), .int .i64 (tsl : Nat), .int .u64 (tg0 : Nat), .int .u64 (tg1 : Nat), .int .u64 (tg2 : Nat), .int .u64 (tg3 : Nat), .int .u32 (tfl : Nat), .int .i64 (tmr : Nat), .slice AbC nbt cbC, .slice AsC nst csC] from (hgE.block bC hbCD (fun h => by have h8 := (O1.out.lt bC h.symm).2; have h9 := HBTA.out.size; omega)).trans HCD.out)
        have OE2 := Lib.hid (show wE.ownsRow w20.heap.size 31 12 (.slice A2 i c2) i (flatD L2) from own_keep2 OD2.out (fun g hg => hgE.block g (OD2.out.lt g hg).2 (fun h => hdj g h.symm hg)))
        have hwE : w20.heap.size ≤ wE.heap.size := Nat.le_trans hwD hgE.size
        have hbCE : bC < wE.heap.size := HCE.out.lt
        have HOE := Lib.hid (show wE.ownsRow w20.heap.size 31 12 v4 (i + 1) (flatD L1 ++ (Dt.arr (.slice AbA Dt.nw cbA) (.slice AsA Dt.slots.length csA)).toList) from by
          unfold Dm.arr
          rw [← Etsq.out, ← Etbl.out, ← Etsz.out, ← Etsl.out, ← Etg0.out, ← Etg1.out, ← Etg2.out, ← Etg3.out, ← Etfl.out, ← Etmr.out, ← ENt.out.1, ← ENt.out.2]
          exact hoE)
        have HGE := Lib.hid (And.intro hgE hlE)
        clear hoE hgE hlE hl1 hl2 hdj hpo hsp xa0 xa1 xa2 xa3 xa4 xa5 xa6 xa7 xa8 xa9 xa10 xa11
        have xc0 : wE.cell? ⟨bC, 0, none⟩ = some (.int .u64 (tsq : Nat)) := HCE.out.cell 0
        have xc1 : wE.cell? ⟨bC, 1, none⟩ = some (.int .i64 (tbl : Nat)) := HCE.out.cell 1
        have xc2 : wE.cell? ⟨bC, 2, none⟩ = some (.int .i64 (tsz : Nat)) := HCE.out.cell 2
        have xc3 : wE.cell? ⟨bC, 3, none⟩ = some (.int .i64 (tsl : Nat)) := HCE.out.cell 3
        have xc4 : wE.cell? ⟨bC, 4, none⟩ = some (.int .u64 (tg0 : Nat)) := HCE.out.cell 4
        have xc5 : wE.cell? ⟨bC, 5, none⟩ = some (.int .u64 (tg1 : Nat)) := HCE.out.cell 5
        have xc6 : wE.cell? ⟨bC, 6, none⟩ = some (.int .u64 (tg2 : Nat)) := HCE.out.cell 6
        have xc7 : wE.cell? ⟨bC, 7, none⟩ = some (.int .u64 (tg3 : Nat)) := HCE.out.cell 7
        have xc8 : wE.cell? ⟨bC, 8, none⟩ = some (.int .u32 (tfl : Nat)) := HCE.out.cell 8
        have xc9 : wE.cell? ⟨bC, 9, none⟩ = some (.int .i64 (tmr : Nat)) := HCE.out.cell 9
        have xc10 : wE.cell? ⟨bC, 10, none⟩ = some (.slice AbC nbt cbC) := HCE.out.cell 10
        have xc11 : wE.cell? ⟨bC, 11, none⟩ = some (.slice AsC nst csC) := HCE.out.cell 11
        go_wp2_with (with_reducible refine app12at rfl (.tmp 73) (.tmp 75) 35 rfl w20.heap.size 31 (.agg #[.int .u64 0, .int .i64 0, .int .i64 0, .int .i64 0, .int .u64 0, .int .u64 0, .int .u64 0, .int .u64 0, .int .u32 0, .int .i64 0, .slice none 0 0, .slice none 0 0]) 128 Tryd.underlying35 info_dump rfl (.slice A2 i c2) i (flatD L2) rfl OE2.out [.int .u64 (tsq : Nat), .int .i64 (tbl : Nat), .int .i64 (tsz : Nat), .int .i64 (tsl : Nat), .int .u64 (tg0 : Nat), .int .u64 (tg1 : Nat), .int .u64 (tg2 : Nat), .int .u64 (tg3 : Nat), .int .u32 (tfl : Nat), .int .i64 (tmr : Nat), .slice AbC nbt cbC, .slice AsC nst csC] rfl 1 rfl ?c0 ?c1 ?c2 hwE ?_)
        case c0 => simp [Value.oneCell']
        case c1 => unfold maxLen; omega
        case c2 => omega
        intro v5 wF hoF hgF hlF
        have hoF' : wF.ownsRow w20.heap.size 31 12 v5 (i + 1) (flatD L2 ++ (Dt.arr (.slice AbC Dt.nw cbC) (.slice AsC Dt.slots.length csC)).toList) := by
          unfold Dm.arr
          rw [← Etsq.out, ← Etbl.out, ← Etsz.out, ← Etsl.out, ← Etg0.out, ← Etg1.out, ← Etg2.out, ← Etg3.out, ← Etfl.out, ← Etmr.out, ← ENt.out.1, ← ENt.out.2]
          exact hoF
        obtain ⟨hl1, hl2, hdj, hpo, hsp⟩ := HREST.out
        obtain ⟨L1', L2', q1, q2, q3, q4, q5, q6, q7, q8⟩ := round_ok hl1 hl2 hsz O1.out O2.out hdj HBDD.out hpo hsp HDAD.out HDCD.out HSHt.out.1 HSHt.out.2 HOE.out HGE.out.1 HGE.out.2 hoF' hgF hlF
        have HR := Lib.hid (And.intro q1 (And.intro q2 (And.intro q3 (And.intro q4 (And.intro q5 (And.intro (HB.out.trans q6) (And.intro q7 q8)))))))
        clear hoF hoF' hgF hlF hl1 hl2 hdj hpo hsp q1 q2 q3 q4 q5 q6 q7 q8 xc0 xc1 xc2 xc3 xc4 xc5 xc6 xc7 xc8 xc9 xc10 xc11
        go_wp2_with fail
        go_roundw
        case rel => first | exact ⟨i + 1, L1', L2', by first | rfl | go_num, by omega, HR.out⟩ | ((repeat apply Exists.intro); refine ⟨?_, rfl⟩; exact ⟨i + 1, L1', L2', by first | rfl | go_num, by omega, HR.out⟩)
        case measure => simp [intOf] <;> omega
    · obtain rfl : i = 3 := by omega
      obtain ⟨hl1, hl2, hdj, hpo, hsp⟩ := HREST.out
      obtain ⟨wG, ewG⟩ : ∃ x, x = wr := ⟨_, rfl⟩
      rw [← ewG] at HB O1 O2 HBWR hpo hsz ⊢
      clear HREST ewG wr hlt
      have HPO := Lib.hid hpo
      have HSP := Lib.hid hsp
      have HL1 := Lib.hid hl1
      have HL2 := Lib.hid hl2
      obtain ⟨p, ep⟩ : ∃ x, x = wG.heap.size := ⟨_, rfl⟩
      obtain ⟨wH, ewH⟩ : ∃ x, x = wG.alloc (.cells #[.slice none 0 0, .slice none 0 0] 41) := ⟨_, rfl⟩
      have hKH : BkS p wH p 0 (fun b => p ≤ b ∧ b < wH.heap.size) (.slice none 0 0) (.slice none 0 0) [] [] :=
        ⟨by rw [ewH, ep]; exact Blk.new _ _ _, Nat.le_refl _, ⟨rfl, .inl ⟨rfl, rfl⟩⟩, ⟨rfl, .inl ⟨rfl, rfl⟩⟩, fun i v h => by simp at h, fun i v h => by simp at h⟩
      have hbH : Below p wG wH := by rw [ewH, ep]; exact (Below.refl _ _).alloc (Nat.le_refl _) _
      have HKH := Lib.hid hKH
      have HBH := Lib.hid hbH
      have EP := Lib.hid (show wG.heap.size = p from ep.symm)
      have EWH := Lib.hid ewH
      have hpC : w20.heap.size ≤ p := by rw [ep]; exact hsz
      clear hpo hsp hl1 hl2 hKH hbH ep ewH hsz
      go_wp2_with fail
      rw [← EWH.out, EP.out]
      go_loopw [18, 19, 20, 21, 22, 23] (fun kv _ _ _ _ _ wr => ∃ (k : Nat) (vW vI : Value) (LW LI : List Value), kv = .int .i64 (k : Nat) ∧ k ≤ 3 ∧ BkS p wr p k (fun b => p ≤ b ∧ b < wr.heap.size) vW vI LW LI ∧ Below p wG wr) (fun kv _ _ _ _ _ _ => 3 - (intOf kv).toNat)
      case atStart => exact ⟨0, _, _, [], [], rfl, by omega, HKH.out, HBH.out⟩
      case round =>
        obtain ⟨k, vW, vI, LW, LI, rfl, hk3, hk, hbp⟩ := hrel
        have hpw : p ≤ wr.heap.size := by rw [← EP.out]; exact hbp.size
        have hchain : Below w20.heap.size w20 wr := HB.out.trans (below_up hbp hpC)
        have HCH := Lib.hid hchain
        have HBW := Lib.hid (HBT0.out.trans (below_up hchain hwr))
        have HK := Lib.hid hk
        have HBP := Lib.hid hbp
        clear hk hbp hchain
        by_cases hlt : k < 3
        · have d3 : decide ((k : Int) < 3) = true := decide_eq_true (by omega)
          go_wp2_with fail
          refine (HPP.out wr HBW.out s hs).mono ?_
          rintro e w1B ⟨hb1B, vbB, vsB, rfl, hdB⟩
          rw [EOa.out] at hdB ⊢
          obtain ⟨AbB, cbB, rfl⟩ := own_sl hdB.1
          obtain ⟨AsB, csB, rfl⟩ := own_sl hdB.2
          obtain ⟨bB, ebB⟩ : ∃ x, x = w1B.heap.size := ⟨_, rfl⟩
          obtain ⟨w2B, e2B⟩ : ∃ x, x = w1B.alloc (.cells #[.int .u64 (D0.sq : Nat), .int .i64 (D0.bl : Nat), .int .i64 (D0.sz : Nat), .int .i64 (D0.sl : Nat), .int .u64 (D0.g0 : Nat), .int .u64 (D0.g1 : Nat), .int .u64 (D0.g2 : Nat), .int .u64 (D0.g3 : Nat), .int .u32 (D0.fl : Nat), .int .i64 (D0.mr : Nat), .slice AbB D0.nw cbB, .slice AsB D0.slots.length csB] 31) := ⟨_, rfl⟩
          have hbkB : Blk w2B w1B.heap.size 31 #[.int .u64 (D0.sq : Nat), .int .i64 (D0.bl : Nat), .int .i64 (D0.sz : Nat), .int .i64 (D0.sl : Nat), .int .u64 (D0.g0 : Nat), .int .u64 (D0.g1 : Nat), .int .u64 (D0.g2 : Nat), .int .u64 (D0.g3 : Nat), .int .u32 (D0.fl : Nat), .int .i64 (D0.mr : Nat), .slice AbB D0.nw cbB, .slice AsB D0.slots.length csB] := by rw [e2B]; exact Blk.new _ _ _
          have hb2B : Below w1B.heap.size w1B w2B := by rw [e2B]; exact (Below.refl _ _).alloc (Nat.le_refl _) _
          rw [← ebB] at hbkB
          have hd2B : DumpIn wr.heap.size w2B D0 (.slice AbB D0.nw cbB) (.slice AsB D0.slots.length csB) := hdB.below hb2B (Nat.le_refl _)
          have hbtB : Below wr.heap.size wr w2B := hb1B.trans (below_up hb2B hb1B.size)
          unfold Dm.arr
          rw [← Easq.out, ← Eabl.out, ← Easz.out, ← Easl.out, ← Eag0.out, ← Eag1.out, ← Eag2.out, ← Eag3.out, ← Eafl.out, ← Eamr.out] at e2B hbkB ⊢
          rw [← ENa.out.1] at e2B hbkB ⊢
          rw [← ENa.out.2] at e2B hbkB ⊢
          have HBKB := Lib.hid hbkB
          have HDB := Lib.hid hd2B
          have HBTB := Lib.hid hbtB
          have E2B := Lib.hid e2B
          have EBB := Lib.hid (show w1B.heap.size = bB from ebB.symm)
          have hblB : bB < w2B.heap.size := hbkB.lt
          have hbgB : wr.heap.size ≤ bB := by rw [ebB]; exact hb1B.size
          clear hdB hb1B hbkB hb2B hd2B hbtB e2B ebB
          have hc2 : Below w20.heap.size w20 w2B := HCH.out.trans (below_up HBTB.out HCH.out.size)
          have HB0B := Lib.hid (show Blk w2B b0 31 #[.int .u64 (asq : Nat), .int .i64 (abl : Nat), .int .i64 (asz : Nat), .int .i64 (asl : Nat), .int .u64 (ag0 : Nat), .int .u64 (ag1 : Nat), .int .u64 (ag2 : Nat), .int .u64 (ag3 : Nat), .int .u32 (afl : Nat), .int .i64 (amr : Nat), .slice Ab0 nba cb0, .slice As0 nsa cs0] from HBK0.out.below hc2 hbl0)
          have hd0B : DumpIn w.heap.size w2B D0 (.slice Ab0 D0.nw cb0) (.slice As0 D0.slots.length cs0) := HD0.out.below hc2 (Nat.le_refl _)
          have hSD := sameDump_ok w2B D0 _ _ _ _ HSHa.out.1 HSHa.out.2 HDB.out.rdb HDB.out.rds hd0B.rdb hd0B.rds
          unfold Dm.arr at hSD
          rw [← Easq.out, ← Eabl.out, ← Easz.out, ← Easl.out, ← Eag0.out, ← Eag1.out, ← Eag2.out, ← Eag3.out, ← Eafl.out, ← Eamr.out, ← ENa.out.1, ← ENa.out.2] at hSD
          have HSD := Lib.hid hSD
          clear hSD hc2 hd0B
          go_upto_region 22 with (fail)
          rw [← E2B.out, EBB.out]
          have xb0 : w2B.cell? ⟨bB, 0, none⟩ = some (.int .u64 (asq : Nat)) := HBKB.out.cell 0
          have xb1 : w2B.cell? ⟨bB, 1, none⟩ = some (.int .i64 (abl : Nat)) := HBKB.out.cell 1
          have xb2 : w2B.cell? ⟨bB, 2, none⟩ = some (.int .i64 (asz : Nat)) := HBKB.out.cell 2
          have xb3 : w2B.cell? ⟨bB, 3, none⟩ = some (.int .i64 (asl : Nat)) := HBKB.out.cell 3
          have xb4 : w2B.cell? ⟨bB, 4, none⟩ = some (.int .u64 (ag0 : Nat)) := HBKB.out.cell 4
          have xb5 : w2B.cell? ⟨bB, 5, none⟩ = some (.int .u64 (ag1 : Nat)) := HBKB.out.cell 5
          have xb6 : w2B.cell? ⟨bB, 6, none⟩ = some (.int .u64 (ag2 : Nat)) := HBKB.out.cell 6
          have xb7 : w2B.cell? ⟨bB, 7, none⟩ = some (.int .u64 (ag3 : Nat)) := HBKB.out.cell 7
          have xb8 : w2B.cell? ⟨bB, 8, none⟩ = some (.int .u32 (afl : Nat)) := HBKB.out.cell 8
          have xb9 : w2B.cell? ⟨bB, 9, none⟩ = some (.int .i64 (amr : Nat)) := HBKB.out.cell 9
          have xb10 : w2B.cell? ⟨bB, 10, none⟩ = some (.slice AbB nba cbB) := HBKB.out.cell 10
          have xb11 : w2B.cell? ⟨bB, 11, none⟩ = some (.slice AsB nsa csB) := HBKB.out.cell 11
          have xz0 : w2B.cell? ⟨b0, 0, none⟩ = some (.int .u64 (asq : Nat)) := HB0B.out.cell 0
          have xz1 : w2B.cell? ⟨b0, 1, none⟩ = some (.int .i64 (abl : Nat)) := HB0B.out.cell 1
          have xz2 : w2B.cell? ⟨b0, 2, none⟩ = some (.int .i64 (asz : Nat)) := HB0B.out.cell 2
          have xz3 : w2B.cell? ⟨b0, 3, none⟩ = some (.int .i64 (asl : Nat)) := HB0B.out.cell 3
          have xz4 : w2B.cell? ⟨b0, 4, none⟩ = some (.int .u64 (ag0 : Nat)) := HB0B.out.cell 4
          have xz5 : w2B.cell? ⟨b0, 5, none⟩ = some (.int .u64 (ag1 : Nat)) := HB0B.out.cell 5
          have xz6 : w2B.cell? ⟨b0, 6, none⟩ = some (.int .u64 (ag2 : Nat)) := HB0B.out.cell 6
          have xz7 : w2B.cell? ⟨b0, 7, none⟩ = some (.int .u64 (ag3 : Nat)) := HB0B.out.cell 7
          have xz8 : w2B.cell? ⟨b0, 8, none⟩ = some (.int .u32 (afl : Nat)) := HB0B.out.cell 8
          have xz9 : w2B.cell? ⟨b0, 9, none⟩ = some (.int .i64 (amr : Nat)) := HB0B.out.cell 9
          have xz10 : w2B.cell? ⟨b0, 10, none⟩ = some (.slice Ab0 nba cb0) := HB0B.out.cell 10
          have xz11 : w2B.cell? ⟨b0, 11, none⟩ = some (.slice As0 nsa cs0) := HB0B.out.cell 11
          have hb0B : b0 < w2B.heap.size := HB0B.out.lt
          go_wp2_with fail
          refine HSD.out.mono ?_
          rintro e wD ⟨rfl, hbD⟩
          have HBD := Lib.hid (show Blk wD bB 31 #[.int .u64 (asq : Nat), .int .i64 (abl : Nat), .int .i64 (asz : Nat), .int .i64 (asl : Nat), .int .u64 (ag0 : Nat), .int .u64 (ag1 : Nat), .int .u64 (ag2 : Nat), .int .u64 (ag3 : Nat), .int .u32 (afl : Nat), .int .i64 (amr : Nat), .slice AbB nba cbB, .slice AsB nsa csB] from HBKB.out.below hbD hblB)
          have hwD : Below wr.heap.size wr wD := HBTB.out.trans (below_up hbD HBTB.out.size)
          have hkD := HK.out.below hwD (Nat.le_refl _)
          have hdD := HDB.out.below hbD (Nat.le_refl _)
          have hKP := keep_ok p wr.heap.size wD p k _ vW vI LW LI D0 _ _ hkD (by omega) hdD HSHa.out.1 HSHa.out.2 (fun g hg hc => by have h8 := (hdD.1.lt g hg).1; have h9 := hc.2; omega) (fun g hg hc => by have h8 := (hdD.2.lt g hg).1; have h9 := hc.2; omega) (Nat.le_trans hpw hwD.size)
          have HDO := Lib.hid (And.intro (fun g hg => (hdD.1.lt g hg).1) (fun g hg => (hdD.2.lt g hg).1))
          unfold Dm.arr at hKP
          rw [← Easq.out, ← Eabl.out, ← Easz.out, ← Easl.out, ← Eag0.out, ← Eag1.out, ← Eag2.out, ← Eag3.out, ← Eafl.out, ← Eamr.out, ← ENa.out.1, ← ENa.out.2] at hKP
          rw [← ENa.out.1, ← ENa.out.2] at HDO
          have HKP := Lib.hid hKP
          have HWD := Lib.hid hwD
          have hbBD : bB < wD.heap.size := HBD.out.lt
          clear hbD hwD hkD hdD hKP xb0 xz0 xb1 xz1 xb2 xz2 xb3 xz3 xb4 xz4 xb5 xz5 xb6 xz6 xb7 xz7 xb8 xz8 xb9 xz9 xb10 xz10 xb11 xz11
          have xb0 : wD.cell? ⟨bB, 0, none⟩ = some (.int .u64 (asq : Nat)) := HBD.out.cell 0
          have xb1 : wD.cell? ⟨bB, 1, none⟩ = some (.int .i64 (abl : Nat)) := HBD.out.cell 1
          have xb2 : wD.cell? ⟨bB, 2, none⟩ = some (.int .i64 (asz : Nat)) := HBD.out.cell 2
          have xb3 : wD.cell? ⟨bB, 3, none⟩ = some (.int .i64 (asl : Nat)) := HBD.out.cell 3
          have xb4 : wD.cell? ⟨bB, 4, none⟩ = some (.int .u64 (ag0 : Nat)) := HBD.out.cell 4
          have xb5 : wD.cell? ⟨bB, 5, none⟩ = some (.int .u64 (ag1 : Nat)) := HBD.out.cell 5
          have xb6 : wD.cell? ⟨bB, 6, none⟩ = some (.int .u64 (ag2 : Nat)) := HBD.out.cell 6
          have xb7 : wD.cell? ⟨bB, 7, none⟩ = some (.int .u64 (ag3 : Nat)) := HBD.out.cell 7
          have xb8 : wD.cell? ⟨bB, 8, none⟩ = some (.int .u32 (afl : Nat)) := HBD.out.cell 8
          have xb9 : wD.cell? ⟨bB, 9, none⟩ = some (.int .i64 (amr : Nat)) := HBD.out.cell 9
          have xb10 : wD.cell? ⟨bB, 10, none⟩ = some (.slice AbB nba cbB) := HBD.out.cell 10
          have xb11 : wD.cell? ⟨bB, 11, none⟩ = some (.slice AsB nsa csB) := HBD.out.cell 11
          go_wp2_with fail
          refine HKP.out.mono ?_
          rintro e wE ⟨rfl, hoE, vW', vI', LW', LI', hkE⟩
          have HKE := Lib.hid (kept_ok p wE p (k + 1) _ vW' vI' LW' LI' hkE (by omega))
          have HREL := Lib.hid (show ∃ (k' : Nat) (vW vI : Value) (LW LI : List Value), Value.int .i64 ((k : Int) + 1) = .int .i64 (k' : Nat) ∧ k' ≤ 3 ∧ BkS p wE p k' (fun b => p ≤ b ∧ b < wE.heap.size) vW vI LW LI ∧ Below p wG wE from
            ⟨k + 1, vW', vI', LW', LI', by go_num, by omega, hkE.inter.mono (fun g hg => ⟨by
              rcases hg.1 with h | h | h | h
              · exact h.1
              · have := HDO.out.1 g h; omega
              · have := HDO.out.2 g h; omega
              · have := HWD.out.size; omega, hg.2⟩), (HBP.out.trans (below_up HWD.out hpw)).trans (hoE.below (Nat.le_trans hpw HWD.out.size) (fun x hx => by
              rcases hx with h | h | h
              · exact h
              · have := HDO.out.1 x h; omega
              · have := HDO.out.2 x h; omega))⟩)
          clear hoE hkE
          go_wp2_with fail
          refine HKE.out.mono ?_
          rintro e wF ⟨rfl, rfl⟩
          go_wp2_with fail
          go_roundw
          case rel => first | exact HREL.out | ((repeat apply Exists.intro); refine ⟨?_, rfl⟩; exact HREL.out)
          case measure => simp [intOf]; omega
        · obtain rfl : k = 3 := by omega
          have hk := HK.out
          have hbp := HBP.out
          have o1 : wr.ownsRow w20.heap.size 31 12 (.slice A1 3 c1) 3 (flatD L1) := own_keep2 O1.out (fun g hg => hbp.block g (by rw [← EP.out]; exact (O1.out.lt g hg).2))
          have o2 : wr.ownsRow w20.heap.size 31 12 (.slice A2 3 c2) 3 (flatD L2) := own_keep2 O2.out (fun g hg => hbp.block g (by rw [← EP.out]; exact (O2.out.lt g hg).2))
          have hlt9 : ∀ (X : Dm) (a b : Value) (g : Nat), DumpIn w20.heap.size wG X a b → OwnD (X, a, b) g → g < p := fun X a b g h hg => by rw [← EP.out]; exact (DumpIn.ownlt h hg).2
          have hKL := late_ok p w20.heap.size wr p 3 _ vW vI LW LI hk (by omega) hpw hpC (.slice A1 3 c1) (.slice A2 3 c2) L1 L2 (by rw [HL1.out]; omega) (by rw [HL1.out, HL2.out]) (by rw [HL1.out]; exact o1) (by rw [HL2.out]; exact o2) (fun g hg => by rw [← EP.out]; exact (O1.out.lt g hg).2)
            (fun j x y hx hy => by
              obtain ⟨a1, a2, a3, a4, a5⟩ := HPO.out j x y hx hy
              have k4 := a4.below hbp (Nat.le_of_eq EP.out)
              have k5 := a5.below hbp (Nat.le_of_eq EP.out)
              rw [← a1] at k5
              exact ⟨a1, a2, a3, k4, k5.rdb, k5.rds⟩)
            (fun j x g hx hg => by
              obtain ⟨y, hy⟩ : ∃ y : Dm × Value × Value, L2[j]? = some y := ⟨_, List.getElem?_eq_getElem (by have := (List.getElem?_eq_some_iff.1 hx).1; rw [HL1.out] at this; rw [HL2.out]; exact this)⟩
              obtain ⟨_, _, _, a4, _⟩ := HPO.out j x y hx hy
              have := hlt9 x.1 x.2.1 x.2.2 g a4 hg
              exact ⟨this, fun hc => by have := hc.1; omega⟩)
            HSP.out
          have HKL := Lib.hid hKL
          have HEN := Lib.hid (fun wZ (h : OnlyP (fun b => w20.heap.size ≤ b) wr wZ) => HF.out wZ (HBW.out.trans (h.below (Nat.le_trans hwr HCH.out.size) (fun x hx => by omega))))
          have d3 : decide ((3 : Int) < 3) = false := by decide
          clear hk hbp o1 o2 hlt9 hKL hlt
          go_wp2_with fail
          refine HKL.out.mono ?_
          rintro e wZ ⟨rfl, hoZ⟩
          have HE2 := Lib.hid (HEN.out wZ hoZ)
          clear hoZ
          go_wp2_with fail
          first | exact HE2.out | (go_ret; exact HE2.out)
end Go.Proofs.YtbfebfeliddpnaaDoor
