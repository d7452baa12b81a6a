/- MetaTurns: the law. -/
import Derived.Test.YtgehbfnfhjpjbaaDoorTrnW
import Derived.StillTailTactics
import Derived.Maps.AppendAt
import Derived.IntWalk
namespace Go.Proofs.YtgehbfnfhjpjbaaDoor
open Go.RowKit
open Go.ChangeMaps
set_option linter.unusedVariables false
set_option linter.unusedSimpArgs false
theorem readX_slot {s : DSt} (h1 : s.nb = 2) (h2 : s.off = false) (h3 : s.ca = fun _ => []) (k : Nat) (hk : k < 2) : readX s (k : Nat) = if s.sp k = true then [] else s.dur k := by
  have hin : s.inr ((k : Nat) : Int) := ⟨by omega, by rw [h1]; omega⟩
  have e0 : readE s ((k : Nat) : Int) = if s.sp k = true then 21 else 0 := by
    unfold readE
    rw [if_neg (fun h => h hin), h2, if_neg (by decide), h3, if_neg (by simp), Int.toNat_natCast]
  unfold readX
  rw [e0]
  by_cases hs : s.sp k = true
  · rw [if_pos hs, if_pos (by decide), if_pos hs]
  · rw [if_neg hs, if_neg (by decide), h3, if_neg (by simp), if_neg hs, Int.toNat_natCast]
theorem readS_f (s : DSt) (j : Int) : (readS s j).nb = s.nb ∧ (readS s j).off = s.off ∧ (readS s j).ca = s.ca ∧ (readS s j).sp = s.sp ∧ (readS s j).dur = s.dur := by
  unfold readS; split <;> exact ⟨rfl, rfl, rfl, rfl, rfl⟩
def flatS (h : Nat → Sup) : Nat → List Value
  | 0 => []
  | n + 1 => flatS h n ++ (h n).arr.toList
theorem flatS_len (h : Nat → Sup) : ∀ n, (flatS h n).length = n * 10
  | 0 => rfl
  | n + 1 => by rw [flatS, List.length_append, flatS_len h n, show (h n).arr.toList.length = 10 from rfl]; omega
theorem flatS_get (h : Nat → Sup) : ∀ (n j k : Nat), j < n → k < 10 → (flatS h n)[j * 10 + k]? = (h j).arr[k]?
  | 0, j, k, hj, hk => by omega
  | n + 1, j, k, hj, hk => by
    rw [flatS]
    by_cases e : j = n
    · subst e
      rw [List.getElem?_append_right (by rw [flatS_len]; omega), flatS_len, show j * 10 + k - j * 10 = k by omega, Array.getElem?_toList]
    · rw [List.getElem?_append_left (by rw [flatS_len]; omega)]
      exact flatS_get h n j k (by omega) hk
theorem app10at {P : Program} {ops : Array Oper} {rest : List Oper} {o : Oper} {a : Act} {Q : Exit → Act → World → Prop} {W : World} (hgd : o.guard = none) (s x : Operand) (t : TypeId)
    (ho : o.op = .call { callee := .builtin .append, args := #[s, x], argTypes := #[t, t] }) (B : Nat) (e : TypeId) (z : Value) (bytes : Nat) (ht : P.underlying t = some (.slice e))
    (hinfo : (P.info? e).map (fun i => (i.zero, i.size, i.bytes)) = some (some z, 10, bytes)) (hz : z.cells.size = 10) (v : Value) (n : Nat) (xs : List Value) (hs : a.eval s = v) (hown : W.ownsRow B e 10 v n xs)
    (us : List Value) (hul : us.length = 10) (c : Nat) (hx : a.eval x = .slice (some ⟨W.heap.size, 0, none⟩) 1 c) (hu : ∀ u ∈ us, u.oneCell' = true) (hn : n + 1 ≤ maxLen) (hb : (n + 1) * bytes ≤ 140737488355328) (hB : B ≤ W.heap.size)
    (h : ∀ v' w', w'.ownsRow B e 10 v' (n + 1) (xs ++ us) → W.grownBy w' v.ownBlock → (∀ g, v'.ownBlock = some g → v.ownBlock = some g ∨ W.heap.size ≤ g) → wpList P ops Q rest (a.put o.dst v') w') : wpList P ops Q (o :: rest) a (W.alloc (.cells us.toArray e)) := by
  obtain ⟨i, hi, hzz⟩ := Option.map_eq_some_iff.1 hinfo
  simp only [Prod.mk.injEq] at hzz
  obtain ⟨h0, h1, h2⟩ := hzz
  refine wpList_append_own_at _ hgd s x t ho B e i z 10 bytes ht hi h0 h1 h2 hz (by decide) v n xs hs (hown.alloc _) ⟨W.heap.size, 0, none⟩ 1 c us hx (by rw [hul]) ?_ hu hn hb (by rw [size_alloc]; omega) ?_
  · have h9 := World.news_of_block (cs := us.toArray) (t := e) (fr := (0, 0)) (Blk.new W e us.toArray)
    intro j u hj
    exact h9 j u (by simpa using hj)
  · intro v' w' h3 h4 _ h5
    refine h v' w' h3 (grown_alloc h4 ?_) (fun g hg => ?_)
    · intro e1
      have := (hown.lt W.heap.size e1).2
      omega
    · rcases h5 with h5 | h5
      · exact .inl (by rw [← h5]; exact hg)
      · rw [h5, size_alloc] at hg
        simp only [Option.some.injEq] at hg
        exact .inr (by omega)
theorem info_super : (Tryd.prog.info? 27).map (fun i => (i.zero, i.size, i.bytes)) = some (some (.agg #[.int .u64 0, .int .i64 0, .int .i64 0, .int .i64 0, .int .u64 0, .int .u64 0, .int .u64 0, .int .u64 0, .int .u32 0, .int .i64 0]), 10, 80) := by kernel_rfl
set_option maxHeartbeats 16000000 in
set_option maxRecDepth 100000 in
theorem turns_law (K : Nat → Int) (S : St) (f : Sup) (mv pv : Value) (ms ps : List Int) (steps : Int) (spl : Bool) (w : World) (hT : Tab K S w) (hk : Kinds f) (hms : Rd .i64 w mv ms) (hml : ms.length ≤ 1048576) (hst : -9223372036854775808 ≤ steps ∧ steps < 9223372036854775808) (hps : Rd .u8 w pv ps) (hpb : BytesL ps) (hpl : ps.length ≤ 1048576) :
    Calls Tryd.prog 3 #[.agg f.arr, mv, .int .i64 steps, pv, .bool spl] w (DoneT w) := by
  obtain ⟨Q, eQ⟩ : ∃ Q, Q = DoneT w := ⟨_, rfl⟩
  rw [← eQ]
  have HF := Lib.hid (fun w' (h : Below w.heap.size w w') => show Q (.returned (.bool true)) w' by rw [eQ]; exact ⟨rfl, h⟩)
  clear eQ
  obtain ⟨f0, ef⟩ : ∃ x, x = f := ⟨_, rfl⟩
  have hlw := fun wq => lawful_ok f wq
  obtain ⟨sq, bl, sz, sl, cu, bm, o1, o2, fl, mr⟩ := f
  rw [← ef] at hk hlw
  obtain ⟨NM, eNM⟩ : ∃ x, x = ms.length := ⟨_, rfl⟩
  obtain ⟨Am, cm, rfl⟩ := hms.slice
  obtain ⟨Ap, cp, rfl⟩ := hps.slice
  have HMS := Lib.hid hms
  have HT := Lib.hid hT
  have HKI := Lib.hid hk
  have EF := Lib.hid ef
  have ENM := Lib.hid eNM
  have hNM : NM ≤ 1048576 := by rw [eNM]; exact hml
  rw [← eNM]
  obtain ⟨NP, eNP⟩ : ∃ x, x = ps.length := ⟨_, rfl⟩
  have ENP := Lib.hid eNP
  rw [← eNP] at hps ⊢
  have HPS := Lib.hid hps
  have HPL := Lib.hid hpl
  have HPB := Lib.hid hpb
  obtain ⟨bF, ebF⟩ : ∃ x, x = w.heap.size := ⟨_, rfl⟩
  simp only [Sup.arr]
  obtain ⟨wa, ewa⟩ : ∃ x, x = w.alloc (.cells #[.int .u64 sq, .int .i64 bl, .int .i64 sz, .int .i64 sl, .int .u64 cu, .int .u64 bm, .int .u64 o1, .int .u64 o2, .int .u32 fl, .int .i64 mr] 27) := ⟨_, rfl⟩
  have hbka : Blk wa bF 27 #[.int .u64 sq, .int .i64 bl, .int .i64 sz, .int .i64 sl, .int .u64 cu, .int .u64 bm, .int .u64 o1, .int .u64 o2, .int .u32 fl, .int .i64 mr] := by rw [ewa, ebF]; exact Blk.new _ _ _
  have hba : Below bF w wa := by rw [ewa, ebF]; exact (Below.refl _ _).alloc (Nat.le_refl _) _
  have HLW := Lib.hid (hlw wa)
  rw [ef] at HLW
  simp only [Sup.arr] at HLW
  have EWA := Lib.hid ewa
  have EBF := Lib.hid ebF
  have HBKA := Lib.hid hbka
  have HBA := Lib.hid hba
  clear hlw hms hps hT hk ef eNM hml hpl hpb eNP ewa ebF hbka hba
  go_enter Tryd.func3, Tryd.ntmps3
  go_upto_region 1 with (fail)
  rw [← EWA.out, ← EBF.out]
  have x0 : wa.cell? ⟨bF, 0, none⟩ = some (.int .u64 sq) := HBKA.out.cell 0
  have x1 : wa.cell? ⟨bF, 1, none⟩ = some (.int .i64 bl) := HBKA.out.cell 1
  have x2 : wa.cell? ⟨bF, 2, none⟩ = some (.int .i64 sz) := HBKA.out.cell 2
  have x3 : wa.cell? ⟨bF, 3, none⟩ = some (.int .i64 sl) := HBKA.out.cell 3
  have x4 : wa.cell? ⟨bF, 4, none⟩ = some (.int .u64 cu) := HBKA.out.cell 4
  have x5 : wa.cell? ⟨bF, 5, none⟩ = some (.int .u64 bm) := HBKA.out.cell 5
  have x6 : wa.cell? ⟨bF, 6, none⟩ = some (.int .u64 o1) := HBKA.out.cell 6
  have x7 : wa.cell? ⟨bF, 7, none⟩ = some (.int .u64 o2) := HBKA.out.cell 7
  have x8 : wa.cell? ⟨bF, 8, none⟩ = some (.int .u32 fl) := HBKA.out.cell 8
  have x9 : wa.cell? ⟨bF, 9, none⟩ = some (.int .i64 mr) := HBKA.out.cell 9
  go_wp2_with fail
  refine HLW.out.mono ?_
  intro e w1 hq
  rcases hq.cases with ⟨hf, rfl, hb1⟩ | ⟨hf, rfl, hb1⟩
  case inr =>
    have HE := Lib.hid (HF.out w1 ((EBF.out ▸ HBA.out).trans ⟨hb1.os, hb1.tape, hb1.output, hb1.size, fun b hb => hb1.block b (by have := HBA.out.size; have := EBF.out; omega)⟩))
    clear hq hf hb1
    go_wp2_with fail
    first | exact HE.out | (go_ret; exact HE.out)
  have hbw1 : Below w.heap.size w w1 := (EBF.out ▸ HBA.out).trans ⟨hb1.os, hb1.tape, hb1.output, hb1.size, fun b hb => hb1.block b (by have := HBA.out.size; have := EBF.out; omega)⟩
  have hbk1 : Blk w1 bF 27 #[.int .u64 sq, .int .i64 bl, .int .i64 sz, .int .i64 sl, .int .u64 cu, .int .u64 bm, .int .u64 o1, .int .u64 o2, .int .u32 fl, .int .i64 mr] := HBKA.out.below hb1 HBKA.out.lt
  have hfits : Fits f0 := by rw [EF.out]; exact hf
  obtain ⟨f1, f2, f3, f4, f5, f6, f7, f8, f9, f10⟩ := hf
  simp only at f1 f2 f3 f4 f5 f6 f7 f8 f9 f10
  obtain ⟨SZ, rfl⟩ : ∃ n : Nat, sz = n := ⟨sz.toNat, by rcases f5 with h | h | h | h <;> omega⟩
  have hSZ : Size SZ := by rcases f5 with h | h | h | h <;> (unfold Size; omega)
  have HSZ := Lib.hid hSZ
  have HFI := Lib.hid hfits
  have HBW1 := Lib.hid hbw1
  have HBK1 := Lib.hid hbk1
  clear hq hb1 hbw1 hbk1 hSZ hfits x0 x1 x2 x3 x4 x5 x6 x7 x8 x9 f5
  have hwr : IntKind.u64.wrap (4611686018427387904 - (NM : Int)) = 4611686018427387904 - (NM : Int) := by rw [IntKind.wrap]; simp [IntKind.signed, IntKind.bits]; omega
  have y0 : w1.cell? ⟨bF, 0, none⟩ = some (.int .u64 sq) := HBK1.out.cell 0
  have y2 : w1.cell? ⟨bF, 2, none⟩ = some (.int .i64 (SZ : Nat)) := HBK1.out.cell 2
  by_cases hseq : 4611686018427387904 - (NM : Int) < sq
  · have dseq : decide (4611686018427387904 - (NM : Int) < sq) = true := decide_eq_true hseq
    have HE := Lib.hid (HF.out w1 HBW1.out)
    clear hseq
    go_wp2_with fail
    first | exact HE.out | (go_ret; exact HE.out)
  have dseq : decide (4611686018427387904 - (NM : Int) < sq) = false := decide_eq_false hseq
  have HNW := Lib.hid (dnew_ok w1 2 SZ (by decide) (by decide) HSZ.out)
  go_wp2_with fail
  refine HNW.out.mono ?_
  rintro e w2 ⟨d, O, rfl, hrep2, hO2, hb2⟩
  have hcur2 : CurT w O w2 d (newS 2 SZ) := ⟨hrep2, fun b hb => Nat.le_trans HBW1.out.size (hO2 b hb), HBW1.out.trans ⟨hb2.os, hb2.tape, hb2.output, hb2.size, fun b hb => hb2.block b (Nat.lt_of_lt_of_le hb HBW1.out.size)⟩⟩
  have hbk2 : Blk w2 bF 27 #[.int .u64 (sq), .int .i64 (bl), .int .i64 (SZ : Nat), .int .i64 (sl), .int .u64 (cu), .int .u64 (bm), .int .u64 (o1), .int .u64 (o2), .int .u32 (fl), .int .i64 (mr)] := HBK1.out.below hb2 HBK1.out.lt
  have hnF2 : ¬ O bF := fun h => by have h8 := hO2 bF h; have h9 := HBK1.out.lt; omega
  have HFU := Lib.hid (fuseT_ok O w2 d (newS 2 SZ) steps hrep2 hst.2)
  have HCUR2 := Lib.hid hcur2
  have HBK2 := Lib.hid hbk2
  clear hrep2 hO2 hb2 hcur2 hbk2 y0 y2 hwr dseq
  go_wp2_with fail
  refine HFU.out.mono ?_
  rintro e w3 ⟨rfl, hs3⟩
  have hbk3 : Blk w3 bF 27 #[.int .u64 (sq), .int .i64 (bl), .int .i64 (SZ : Nat), .int .i64 (sl), .int .u64 (cu), .int .u64 (bm), .int .u64 (o1), .int .u64 (o2), .int .u32 (fl), .int .i64 (mr)] := (hs3.1.block bF HBK2.out.lt hnF2).trans HBK2.out
  obtain ⟨O3, hcur3, hO3⟩ := HCUR2.out.step hs3
  have hnF3 : ¬ O3 bF := fun h => (hO3 bF h).elim hnF2 (fun h => by have := HBK2.out.lt; omega)
  obtain ⟨bS, ebS⟩ : ∃ x, x = w3.heap.size := ⟨_, rfl⟩
  obtain ⟨w4, ew4⟩ : ∃ x, x = w3.alloc (.cells #[.int .u64 (sq), .int .i64 (bl), .int .i64 (SZ : Nat), .int .i64 (sl), .int .u64 (cu), .int .u64 (bm), .int .u64 (o1), .int .u64 (o2), .int .u32 (fl), .int .i64 (mr)] 27) := ⟨_, rfl⟩
  have hb4 : Below w3.heap.size w3 w4 := by rw [ew4]; exact (Below.refl _ _).alloc (Nat.le_refl _) _
  have hcur4 : CurT w O3 w4 d (fuseS (newS 2 SZ) steps) := hcur3.below hb4
  have hbS4 : Blk w4 bS 27 #[.int .u64 (sq), .int .i64 (bl), .int .i64 (SZ : Nat), .int .i64 (sl), .int .u64 (cu), .int .u64 (bm), .int .u64 (o1), .int .u64 (o2), .int .u32 (fl), .int .i64 (mr)] := by rw [ew4, ebS]; exact Blk.new _ _ _
  have hbF4 : Blk w4 bF 27 #[.int .u64 (sq), .int .i64 (bl), .int .i64 (SZ : Nat), .int .i64 (sl), .int .u64 (cu), .int .u64 (bm), .int .u64 (o1), .int .u64 (o2), .int .u32 (fl), .int .i64 (mr)] := hbk3.below hb4 hbk3.lt
  have hnS4 : ¬ O3 bS := fun h => by have := hcur3.rep.lt h; omega
  have hFS : bF ≠ bS := by have := hbk3.lt; omega
  have HWS := Lib.hid (show w.heap.size ≤ bS by rw [ebS]; exact hcur3.bel.size)
  have HBK3 := Lib.hid hbk3
  have HCUR4 := Lib.hid hcur4
  have HBS4 := Lib.hid hbS4
  have HBF4 := Lib.hid hbF4
  have EW4 := Lib.hid ew4
  have EBS := Lib.hid ebS
  clear hs3 hbk3 hcur3 hO3 ebS ew4 hb4 hcur4 hbS4 hbF4 hnF2
  go_upto_region 9 with (fail)
  have x0 : w3.cell? ⟨bF, 0, none⟩ = some (.int .u64 (sq)) := HBK3.out.cell 0
  have x1 : w3.cell? ⟨bF, 1, none⟩ = some (.int .i64 (bl)) := HBK3.out.cell 1
  have x2 : w3.cell? ⟨bF, 2, none⟩ = some (.int .i64 (SZ : Nat)) := HBK3.out.cell 2
  have x3 : w3.cell? ⟨bF, 3, none⟩ = some (.int .i64 (sl)) := HBK3.out.cell 3
  have x4 : w3.cell? ⟨bF, 4, none⟩ = some (.int .u64 (cu)) := HBK3.out.cell 4
  have x5 : w3.cell? ⟨bF, 5, none⟩ = some (.int .u64 (bm)) := HBK3.out.cell 5
  have x6 : w3.cell? ⟨bF, 6, none⟩ = some (.int .u64 (o1)) := HBK3.out.cell 6
  have x7 : w3.cell? ⟨bF, 7, none⟩ = some (.int .u64 (o2)) := HBK3.out.cell 7
  have x8 : w3.cell? ⟨bF, 8, none⟩ = some (.int .u32 (fl)) := HBK3.out.cell 8
  have x9 : w3.cell? ⟨bF, 9, none⟩ = some (.int .i64 (mr)) := HBK3.out.cell 9
  obtain ⟨G, eG⟩ : ∃ G : Nat → List Int, G = fun j => sealL K S (supI f0 ms j) := ⟨_, rfl⟩
  have EG := Lib.hid eG
  obtain ⟨H4, eH4⟩ : ∃ x, x = w4.heap.size := ⟨_, rfl⟩
  have hS4 : bS < H4 := by rw [eH4]; exact HBS4.out.lt
  have hF4 : bF < H4 := by rw [eH4]; exact HBF4.out.lt
  have EH4 := Lib.hid eH4
  have HWH := Lib.hid (show w.heap.size ≤ H4 by rw [eH4]; exact HCUR4.out.bel.size)
  clear eG eH4
  go_wp2_with fail
  rw [← EW4.out, ← EBS.out]
  clear x0 x1 x2 x3 x4 x5 x6 x7 x8 x9
  go_loopw [14, 16, 17, 18] (fun dv iv _ _ wr => ∃ (i : Nat) (O : Nat → Prop) (s : DSt) (q m : Int), iv = .int .i64 (i : Nat) ∧ i ≤ NM ∧ CurT w O wr d s ∧ TInv G SZ steps i s ∧ ¬ O bS ∧ ¬ O bF ∧ Blk wr bS 27 #[.int .u64 (q), .int .i64 (bl), .int .i64 (SZ : Nat), .int .i64 (sl), .int .u64 (cu), .int .u64 (bm), .int .u64 (o1), .int .u64 (o2), .int .u32 (fl), .int .i64 (m)] ∧ Blk wr bF 27 #[.int .u64 (sq), .int .i64 (bl), .int .i64 (SZ : Nat), .int .i64 (sl), .int .u64 (cu), .int .u64 (bm), .int .u64 (o1), .int .u64 (o2), .int .u32 (fl), .int .i64 (mr)] ∧ wr.ownsRow H4 27 10 dv (nD steps i) (flatS (supI f0 ms) (nD steps i)) ∧ (∀ g, dv.ownBlock = some g → ¬ O g) ∧ H4 ≤ wr.heap.size) (fun _ iv _ _ _ => NM - (intOf iv).toNat)
  case atStart => exact ⟨0, O3, _, sq, mr, rfl, Nat.zero_le _, HCUR4.out, TInv.start G SZ steps, hnS4, hnF3, HBS4.out, HBF4.out, by
    have e : nD steps 0 = 0 := by unfold nD; split <;> simp
    rw [e]; exact ⟨rfl, .inl ⟨rfl, rfl⟩⟩, fun g hg => by simp [Value.ownBlock] at hg, Nat.le_of_eq EH4.out⟩
  case round =>
    obtain ⟨i, O, s, q, m, rfl, hi, hcur, hinv, hnS, hnF, hbS, hbF, hown, hdn, hH4⟩ := hrel
    obtain ⟨Ad, cd, rfl⟩ := own_slT hown
    by_cases hlt : i < NM
    · have di : decide (i < NM) = true := decide_eq_true hlt
      obtain ⟨x, ex⟩ : ∃ x, x = ms.getD i 0 := ⟨_, rfl⟩
      obtain ⟨mb, mo, rfl, hmb, hmc⟩ : ∃ mb mo, Am = some ⟨mb, mo, none⟩ ∧ mb < w.heap.size ∧ w.cell? ⟨mb, mo + i, none⟩ = some (.int .i64 x) := by
        rcases HMS.out with ⟨h0, _⟩ | ⟨b, off, c, e, _, _, h3, h4⟩
        · have h9 := ENM.out; rw [h0] at h9; simp at h9; omega
        · simp only [Value.slice.injEq] at e
          exact ⟨b, off, e.1, h3, by rw [ex]; exact h4 i (by rw [← ENM.out]; exact hlt)⟩
      have hsum : sq + i ≤ 4611686018427387904 := by omega
      have EX := Lib.hid ex
      have hWS : w.heap.size ≤ bS := HWS.out
      obtain ⟨w5, e5⟩ : ∃ z, z = wr.setCell ⟨bS, 0, none⟩ (.int .u64 (sq + i)) := ⟨_, rfl⟩
      have hbS5 : Blk w5 bS 27 #[.int .u64 (sq + i), .int .i64 (bl), .int .i64 (SZ : Nat), .int .i64 (sl), .int .u64 (cu), .int .u64 (bm), .int .u64 (o1), .int .u64 (o2), .int .u32 (fl), .int .i64 (m)] := by rw [e5]; exact hbS.set 0 _
      have hbF5 : Blk w5 bF 27 #[.int .u64 (sq), .int .i64 (bl), .int .i64 (SZ : Nat), .int .i64 (sl), .int .u64 (cu), .int .u64 (bm), .int .u64 (o1), .int .u64 (o2), .int .u32 (fl), .int .i64 (mr)] := by rw [e5]; exact hbF.far (p := ⟨bS, 0, none⟩) hFS _
      have hcur5 : CurT w O w5 d s := by rw [e5]; exact hcur.set (p := ⟨bS, 0, none⟩) hnS hWS _
      have hz5 : w5.heap.size = wr.heap.size := by rw [e5, size_setCell]
      have hown5 : w5.ownsRow H4 27 10 (.slice Ad (nD steps i) cd) (nD steps i) (flatS (supI f0 ms) (nD steps i)) := by rw [e5]; exact own_keepT hown (fun g hg => Below.heap_setCell wr ⟨bS, 0, none⟩ _ g (fun h => by have h8 := (hown.lt g hg).1; simp only at h; omega))
      have hmc5 : w5.cell? ⟨mb, mo + i, none⟩ = some (.int .i64 x) := by rw [cell_of_heap (hcur5.bel.block mb hmb)]; exact hmc
      have xF0 : wr.cell? ⟨bF, 0, none⟩ = some (.int .u64 sq) := hbF.cell 0
      have xS0 : wr.cell? ⟨bS, 0, none⟩ = some (.int .u64 q) := hbS.cell 0
      have fS0 : wr.frozen? ⟨bS, 0, none⟩ = false := hbS.free 0
      have E5 := Lib.hid e5
      have HBS5 := Lib.hid hbS5
      have HBF5 := Lib.hid hbF5
      have HCUR5 := Lib.hid hcur5
      have HOWN5 := Lib.hid hown5
      have HINV := Lib.hid hinv
      have HDN := Lib.hid hdn
      clear ex hmc hbS hbF hcur hown hinv hdn e5 hbS5 hbF5 hcur5 hown5
      go_upto_region 14 with (fail)
      rw [← E5.out]
      obtain ⟨w6, e6⟩ : ∃ z, z = w5.drew := ⟨_, rfl⟩
      have xS1 : w5.cell? ⟨bS, 1, none⟩ = some (.int .i64 bl) := HBS5.out.cell 1
      have hbl1 : IntKind.i64.wrap (bl + 1) = bl + 1 := IntWalk.i64_in _ (by omega)
      have hmo0 : (0 : Int) ≤ (i : Int) := by omega
      obtain ⟨R, eR⟩ : ∃ z, z = Int.tmod x (bl + 1) := ⟨_, rfl⟩
      have ER := Lib.hid eR
      have E6 := Lib.hid e6
      clear eR e6 xF0 xS0 fS0
      have hRm : -(bl + 1) < R ∧ R < bl + 1 := by
        rw [ER.out]
        have h1 : Int.tmod x (bl + 1) < bl + 1 := Int.tmod_lt_of_pos x (by omega)
        have h3 : Int.tmod (-x) (bl + 1) < bl + 1 := Int.tmod_lt_of_pos (-x) (by omega)
        rw [Int.neg_tmod] at h3
        omega
      have hRx : Int.tmod x (bl + 1) = R := ER.out.symm
      have hne0 : ¬ (bl + 1 = 0) := by omega
      have hne1 : ((bl + 1) == 0) = false := by rw [beq_eq_false_iff_ne]; exact hne0
      have hRw : IntKind.i64.wrap R = R := IntWalk.i64_in _ (by omega)
      have hi0 : ((i : Nat) : Int) < (NM : Nat) := by omega
      go_still_tail 8, (by kernel_rfl)
      change wpList _ _ _ _ _ w5.drew
      rw [← E6.out]
      have hbS6 : Blk w6 bS 27 #[.int .u64 (sq + i), .int .i64 (bl), .int .i64 (SZ : Nat), .int .i64 (sl), .int .u64 (cu), .int .u64 (bm), .int .u64 (o1), .int .u64 (o2), .int .u32 (fl), .int .i64 (m)] := by rw [E6.out]; exact HBS5.out.drew
      have hbF6 : Blk w6 bF 27 #[.int .u64 (sq), .int .i64 (bl), .int .i64 (SZ : Nat), .int .i64 (sl), .int .u64 (cu), .int .u64 (bm), .int .u64 (o1), .int .u64 (o2), .int .u32 (fl), .int .i64 (mr)] := by rw [E6.out]; exact HBF5.out.drew
      have hcur6 : CurT w O w6 d s := by rw [E6.out]; exact HCUR5.out.drew
      have hown6 : w6.ownsRow H4 27 10 (.slice Ad (nD steps i) cd) (nD steps i) (flatS (supI f0 ms) (nD steps i)) := by rw [E6.out]; exact HOWN5.out
      have hz6 : w6.heap.size = wr.heap.size := by rw [E6.out]; exact hz5
      obtain ⟨w7, e7⟩ : ∃ z, z = w6.setCell ⟨bS, 9, none⟩ (.int .i64 R) := ⟨_, rfl⟩
      have hbS7 : Blk w7 bS 27 #[.int .u64 (sq + i), .int .i64 (bl), .int .i64 (SZ : Nat), .int .i64 (sl), .int .u64 (cu), .int .u64 (bm), .int .u64 (o1), .int .u64 (o2), .int .u32 (fl), .int .i64 (R)] := by rw [e7]; exact hbS6.set 9 _
      have hbF7 : Blk w7 bF 27 #[.int .u64 (sq), .int .i64 (bl), .int .i64 (SZ : Nat), .int .i64 (sl), .int .u64 (cu), .int .u64 (bm), .int .u64 (o1), .int .u64 (o2), .int .u32 (fl), .int .i64 (mr)] := by rw [e7]; exact hbF6.far (p := ⟨bS, 9, none⟩) hFS _
      have hcur7 : CurT w O w7 d s := by rw [e7]; exact hcur6.set (p := ⟨bS, 9, none⟩) hnS hWS _
      have hown7 : w7.ownsRow H4 27 10 (.slice Ad (nD steps i) cd) (nD steps i) (flatS (supI f0 ms) (nD steps i)) := by rw [e7]; exact own_keepT hown6 (fun g hg => Below.heap_setCell w6 ⟨bS, 9, none⟩ _ g (fun h => by have h8 := (hown6.lt g hg).1; simp only at h; omega))
      have hz7 : w7.heap.size = wr.heap.size := by rw [e7, size_setCell]; exact hz6
      have xS9 : w6.cell? ⟨bS, 9, none⟩ = some (.int .i64 m) := hbS6.cell 9
      have fS9 : w6.frozen? ⟨bS, 9, none⟩ = false := hbS6.free 9
      have E7 := Lib.hid e7
      have HBS7 := Lib.hid hbS7
      have HBF7 := Lib.hid hbF7
      have HCUR7 := Lib.hid hcur7
      have HOWN7 := Lib.hid hown7
      clear hbS6 hbF6 hcur6 hown6 e7 hbS7 hbF7 hcur7 hown7 xS1 hmc5
      go_upto_region 15 with (fail)
      rw [← E7.out]
      have yS9 : w7.cell? ⟨bS, 9, none⟩ = some (.int .i64 R) := HBS7.out.cell 9
      have gS9 : w7.frozen? ⟨bS, 9, none⟩ = false := HBS7.out.free 9
      have hMk : mkN bl x = if R < 0 then -R else R := by unfold mkN; rw [hRx]
      have HMK := Lib.hid hMk
      have HRM := Lib.hid hRm
      clear hMk xS9 fS9 hne0 hne1 hRx hRw hi0 hmo0 hbl1 hRm
      by_cases hR : R < 0
      · have dR : decide (R < 0) = true := decide_eq_true hR
        have hnw : IntKind.i64.wrap (-R) = -R := IntWalk.i64_in _ (by have := HRM.out; omega)
        have HM := Lib.hid (show mkN bl x = -R by rw [HMK.out, if_pos hR])
        obtain ⟨M, eM⟩ : ∃ z, z = -R := ⟨_, rfl⟩
        obtain ⟨w8, e8⟩ : ∃ z, z = w7.setCell ⟨bS, 9, none⟩ (.int .i64 M) := ⟨_, rfl⟩
        have HBS8 := Lib.hid (show Blk w8 bS 27 #[.int .u64 (sq + i), .int .i64 (bl), .int .i64 (SZ : Nat), .int .i64 (sl), .int .u64 (cu), .int .u64 (bm), .int .u64 (o1), .int .u64 (o2), .int .u32 (fl), .int .i64 (M)] from by rw [e8]; exact HBS7.out.set 9 _)
        have HBF8 := Lib.hid (show Blk w8 bF 27 #[.int .u64 (sq), .int .i64 (bl), .int .i64 (SZ : Nat), .int .i64 (sl), .int .u64 (cu), .int .u64 (bm), .int .u64 (o1), .int .u64 (o2), .int .u32 (fl), .int .i64 (mr)] from by rw [e8]; exact HBF7.out.far (p := ⟨bS, 9, none⟩) hFS _)
        have HCUR8 := Lib.hid (show CurT w O w8 d s from by rw [e8]; exact HCUR7.out.set (p := ⟨bS, 9, none⟩) hnS hWS _)
        have HOWN8 := Lib.hid (show w8.ownsRow H4 27 10 (.slice Ad (nD steps i) cd) (nD steps i) (flatS (supI f0 ms) (nD steps i)) from by rw [e8]; exact own_keepT HOWN7.out (fun g hg => Below.heap_setCell w7 ⟨bS, 9, none⟩ _ g (fun h => by have h8 := (HOWN7.out.lt g hg).1; simp only at h; omega)))
        have hz8 : w8.heap.size = wr.heap.size := by rw [e8, size_setCell]; exact hz7
        rw [← eM] at HM
        have E8 := Lib.hid (show w7.setCell ⟨bS, 9, none⟩ (.int .i64 (-R)) = w8 by rw [e8, eM])
        clear eM e8 hR
        go_upto_region 17 with (fail)
        rw [E8.out]
        clear yS9 gS9 dR hnw
        have hfi : Fits (supI f0 ms i) := supI_fits HFI.out (by rw [EF.out]; show sq + (i : Int) ≤ _; omega)
        have hki : Kinds (supI f0 ms i) := supI_kinds HKI.out (by rw [EF.out]; show sq + (i : Int) ≤ _; omega)
        have ear : (supI f0 ms i).arr = #[.int .u64 (sq + i), .int .i64 (bl), .int .i64 (SZ : Nat), .int .i64 (sl), .int .u64 (cu), .int .u64 (bm), .int .u64 (o1), .int .u64 (o2), .int .u32 (fl), .int .i64 (M)] := by
          rw [EF.out]
          unfold supI Sup.arr
          simp only
          rw [← EX.out, HM.out]
        have hsz : (supI f0 ms i).sz.toNat = SZ := by rw [EF.out]; show ((SZ : Nat) : Int).toNat = SZ; omega
        have hsz2 : (supI f0 ms i).sz = (SZ : Nat) := by rw [EF.out]; rfl
        have hGi : G i = sealL K S (supI f0 ms i) := by rw [EG.out]
        have hglen : (G i).length = SZ := by rw [hGi, sealL_length K S _ hfi.2.2.2.2.1, hsz]
        have hSL := seal_ok K S (supI f0 ms i) w8 (HT.out.belowS HCUR8.out.bel) hki.2.2.2.2.2.1 hki.2.2.2.2.2.2 hki.2.1.1 hki.2.2.1.1 hki.2.2.2.1.1 hki.2.2.2.2.1.1
        rw [ear] at hSL
        have HSL := Lib.hid hSL
        have HFI2 := Lib.hid hfi
        have EAR := Lib.hid ear
        have HSZ2 := Lib.hid hsz
        have HGI := Lib.hid (And.intro hGi hglen)
        clear hfi hki ear hsz hsz2 hGi hglen hSL
        have x0 : w8.cell? ⟨bS, 0, none⟩ = some (.int .u64 (sq + i)) := HBS8.out.cell 0
        have x1 : w8.cell? ⟨bS, 1, none⟩ = some (.int .i64 (bl)) := HBS8.out.cell 1
        have x2 : w8.cell? ⟨bS, 2, none⟩ = some (.int .i64 (SZ : Nat)) := HBS8.out.cell 2
        have x3 : w8.cell? ⟨bS, 3, none⟩ = some (.int .i64 (sl)) := HBS8.out.cell 3
        have x4 : w8.cell? ⟨bS, 4, none⟩ = some (.int .u64 (cu)) := HBS8.out.cell 4
        have x5 : w8.cell? ⟨bS, 5, none⟩ = some (.int .u64 (bm)) := HBS8.out.cell 5
        have x6 : w8.cell? ⟨bS, 6, none⟩ = some (.int .u64 (o1)) := HBS8.out.cell 6
        have x7 : w8.cell? ⟨bS, 7, none⟩ = some (.int .u64 (o2)) := HBS8.out.cell 7
        have x8 : w8.cell? ⟨bS, 8, none⟩ = some (.int .u32 (fl)) := HBS8.out.cell 8
        have x9 : w8.cell? ⟨bS, 9, none⟩ = some (.int .i64 (M)) := HBS8.out.cell 9
        go_wp2_with fail
        refine HSL.out.mono ?_
        rintro e w9 ⟨hb9, hq9⟩
        rcases hq9 with ⟨_, B, hB, rfl, hrow⟩ | ⟨hno, _⟩
        case inr => exact absurd HFI2.out hno
        rw [HSZ2.out] at hrow ⊢
        obtain ⟨hGi, hglen⟩ := HGI.out
        have hcur9 : CurT w O w9 d s := HCUR8.out.below hb9
        have hrd9 : Rd .u8 w9 (.slice (some ⟨B, 0, none⟩) SZ SZ) (G i) := by
          have h9 := hrow.rd (G i) SZ (by omega) (by omega) (fun j _ => by rw [hGi])
          rw [hglen] at h9
          exact h9
        obtain ⟨P2, eP2⟩ : ∃ z, z = i % 2 := ⟨_, rfl⟩
        have ht2 : Int.tmod ((i : Nat) : Int) 2 = (P2 : Nat) := by rw [eP2, Int.tmod_eq_emod_of_nonneg (by omega)]; omega
        have hth := through_ok O w9 d s ((P2 : Nat) : Int) (.slice (some ⟨B, 0, none⟩) SZ SZ) (G i) hcur9.rep ⟨hrd9, fun b off n c e h0 hO => by
          simp only [Value.slice.injEq, Option.some.injEq, Addr.mk.injEq] at e
          have := HCUR8.out.rep.lt hO
          omega⟩
        have hst2 := HINV.out.step (g := G) (i := i) hglen
        rw [← eP2] at hst2
        have HTH := Lib.hid hth
        have HST2 := Lib.hid hst2
        have HCUR9 := Lib.hid hcur9
        have HBS9 := Lib.hid (HBS8.out.below hb9 HBS8.out.lt)
        have HBF9 := Lib.hid (HBF8.out.below hb9 HBF8.out.lt)
        have HOWN9 := Lib.hid (own_keepT HOWN8.out (fun g hg => hb9.block g (HOWN8.out.lt g hg).2))
        have hz9 : wr.heap.size ≤ w9.heap.size := by rw [← hz8]; exact hb9.size
        clear hb9 hrow hGi hglen hcur9 hrd9 eP2 hth hst2 x0 x1 x2 x3 x4 x5 x6 x7 x8 x9
        go_wp2_with fail
        refine HTH.out.mono ?_
        rintro e wA ⟨er, rfl, hae, hsA⟩
        obtain ⟨OA, hcurA, hOA⟩ := HCUR9.out.step hsA
        have hbSA : Blk wA bS 27 #[.int .u64 (sq + i), .int .i64 (bl), .int .i64 (SZ : Nat), .int .i64 (sl), .int .u64 (cu), .int .u64 (bm), .int .u64 (o1), .int .u64 (o2), .int .u32 (fl), .int .i64 (M)] := (hsA.1.block bS HBS9.out.lt hnS).trans HBS9.out
        have hbFA : Blk wA bF 27 #[.int .u64 (sq), .int .i64 (bl), .int .i64 (SZ : Nat), .int .i64 (sl), .int .u64 (cu), .int .u64 (bm), .int .u64 (o1), .int .u64 (o2), .int .u32 (fl), .int .i64 (mr)] := (hsA.1.block bF HBF9.out.lt hnF).trans HBF9.out
        have hownA := own_keepT HOWN9.out (fun g hg => hsA.1.block g (HOWN9.out.lt g hg).2 (HDN.out g hg))
        have hnSA : ¬ OA bS := fun h => (hOA bS h).elim hnS (fun h2 => by have := HBS9.out.lt; omega)
        have hnFA : ¬ OA bF := fun h => (hOA bF h).elim hnF (fun h2 => by have := HBF9.out.lt; omega)
        have hdnA : ∀ g, (Value.slice Ad (nD steps i) cd).ownBlock = some g → ¬ OA g := fun g hg h => (hOA g h).elim (HDN.out g hg) (fun h2 => by have := (HOWN9.out.lt g hg).2; omega)
        have hzA : H4 ≤ wA.heap.size := Nat.le_trans hH4 (Nat.le_trans hz9 hsA.1.size)
        obtain ⟨hinvA, hwe⟩ := HST2.out
        rw [hwe] at hae
        have HCURA := Lib.hid hcurA
        have HBSA := Lib.hid hbSA
        have HBFA := Lib.hid hbFA
        have HINVA := Lib.hid hinvA
        have HDNA := Lib.hid hdnA
        clear hsA hcurA hOA hbSA hbFA hinvA hwe hdnA HTH HST2
        by_cases hok : steps < 0 ∨ (i : Int) < steps
        · rw [if_pos hok] at hae
          have er0 : er = .nilIface := hae.elim (fun h => h.1) (fun ⟨b, _, _, h0, _⟩ => absurd rfl h0)
          have hn1 : nD steps i = i := by unfold nD; split <;> omega
          have hn2 : nD steps (i + 1) = i + 1 := by unfold nD; split <;> omega
          subst er0
          have hn3 : nD steps (i + 1) = nD steps i + 1 := by omega
          have hndi : nD steps i ≤ i := by omega
          have HOWNA := Lib.hid hownA
          have HN3 := Lib.hid (And.intro hn3 hn1)
          clear hae hok hownA hn1 hn2 hn3
          have x0 : wA.cell? ⟨bS, 0, none⟩ = some (.int .u64 (sq + i)) := HBSA.out.cell 0
          have x1 : wA.cell? ⟨bS, 1, none⟩ = some (.int .i64 (bl)) := HBSA.out.cell 1
          have x2 : wA.cell? ⟨bS, 2, none⟩ = some (.int .i64 (SZ : Nat)) := HBSA.out.cell 2
          have x3 : wA.cell? ⟨bS, 3, none⟩ = some (.int .i64 (sl)) := HBSA.out.cell 3
          have x4 : wA.cell? ⟨bS, 4, none⟩ = some (.int .u64 (cu)) := HBSA.out.cell 4
          have x5 : wA.cell? ⟨bS, 5, none⟩ = some (.int .u64 (bm)) := HBSA.out.cell 5
          have x6 : wA.cell? ⟨bS, 6, none⟩ = some (.int .u64 (o1)) := HBSA.out.cell 6
          have x7 : wA.cell? ⟨bS, 7, none⟩ = some (.int .u64 (o2)) := HBSA.out.cell 7
          have x8 : wA.cell? ⟨bS, 8, none⟩ = some (.int .u32 (fl)) := HBSA.out.cell 8
          have x9 : wA.cell? ⟨bS, 9, none⟩ = some (.int .i64 (M)) := HBSA.out.cell 9
          go_wp2_with (with_reducible refine app10at rfl (.tmp 97) (.tmp 99) 36 rfl H4 27 (.agg #[.int .u64 0, .int .i64 0, .int .i64 0, .int .i64 0, .int .u64 0, .int .u64 0, .int .u64 0, .int .u64 0, .int .u32 0, .int .i64 0]) 80 Tryd.underlying36 info_super rfl (.slice Ad (nD steps i) cd) (nD steps i) (flatS (supI f0 ms) (nD steps i)) rfl HOWNA.out [.int .u64 (sq + i), .int .i64 (bl), .int .i64 (SZ : Nat), .int .i64 (sl), .int .u64 (cu), .int .u64 (bm), .int .u64 (o1), .int .u64 (o2), .int .u32 (fl), .int .i64 (M)] rfl 1 rfl ?c0 ?c1 ?c2 hzA ?_)
          case c0 => simp [Value.oneCell']
          case c1 => unfold maxLen; omega
          case c2 => omega
          intro v4 wB hoB hgB hlB
          have hown9 : ∀ g, (Value.slice Ad (nD steps i) cd).ownBlock = some g → H4 ≤ g := fun g hg => (HOWNA.out.lt g hg).1
          have HREL := Lib.hid (show ∃ (i' : Nat) (O : Nat → Prop) (s : DSt) (q m : Int), Value.int .i64 ((i : Int) + 1) = .int .i64 (i' : Nat) ∧ i' ≤ NM ∧ CurT w O wB d s ∧ TInv G SZ steps i' s ∧ ¬ O bS ∧ ¬ O bF ∧ Blk wB bS 27 #[.int .u64 (q), .int .i64 (bl), .int .i64 (SZ : Nat), .int .i64 (sl), .int .u64 (cu), .int .u64 (bm), .int .u64 (o1), .int .u64 (o2), .int .u32 (fl), .int .i64 (m)] ∧ Blk wB bF 27 #[.int .u64 (sq), .int .i64 (bl), .int .i64 (SZ : Nat), .int .i64 (sl), .int .u64 (cu), .int .u64 (bm), .int .u64 (o1), .int .u64 (o2), .int .u32 (fl), .int .i64 (mr)] ∧ wB.ownsRow H4 27 10 v4 (nD steps i') (flatS (supI f0 ms) (nD steps i')) ∧ (∀ g, v4.ownBlock = some g → ¬ O g) ∧ H4 ≤ wB.heap.size from
            ⟨i + 1, OA, _, sq + i, M, by go_num, by omega, HCURA.out.grown hgB (fun g hg => ⟨HDNA.out g hg, Nat.le_trans HWH.out (hown9 g hg)⟩), HINVA.out, hnSA, hnFA,
              (hgB.block bS HBSA.out.lt (fun h => by have := hown9 bS h.symm; omega)).trans HBSA.out, (hgB.block bF HBFA.out.lt (fun h => by have := hown9 bF h.symm; omega)).trans HBFA.out, by
                rw [HN3.out.1]
                have e : flatS (supI f0 ms) (nD steps i + 1) = flatS (supI f0 ms) (nD steps i) ++ [.int .u64 (sq + i), .int .i64 (bl), .int .i64 (SZ : Nat), .int .i64 (sl), .int .u64 (cu), .int .u64 (bm), .int .u64 (o1), .int .u64 (o2), .int .u32 (fl), .int .i64 (M)] := by
                  rw [flatS, HN3.out.2, EAR.out]
                rw [e]; exact hoB, fun g hg h => (hlB g hg).elim (fun h2 => HDNA.out g h2 h) (fun h2 => by have := HCURA.out.rep.lt h; omega), Nat.le_trans hzA hgB.size⟩)
          clear hoB hgB hlB hown9
          go_wp2_with fail
          go_roundw
          case rel => first | exact HREL.out | ((repeat apply Exists.intro); refine ⟨?_, rfl⟩; exact HREL.out)
          case measure => simp [intOf]; omega
        · rw [if_neg hok] at hae
          obtain ⟨bE, er0⟩ : ∃ b, er = .iface 87 (.pointer (some ⟨b, 0, none⟩)) := hae.elim (fun h => absurd h.2 (by decide)) (fun ⟨b, h, _⟩ => ⟨b, h⟩)
          have hn1 : nD steps (i + 1) = nD steps i := by unfold nD; split <;> omega
          have ds1 : decide (steps < 0) = false := decide_eq_false (by omega)
          have ds2 : decide ((i : Int) < steps) = false := decide_eq_false (by omega)
          subst er0
          have HREL := Lib.hid (show ∃ (i' : Nat) (O : Nat → Prop) (s : DSt) (q m : Int), Value.int .i64 ((i : Int) + 1) = .int .i64 (i' : Nat) ∧ i' ≤ NM ∧ CurT w O wA d s ∧ TInv G SZ steps i' s ∧ ¬ O bS ∧ ¬ O bF ∧ Blk wA bS 27 #[.int .u64 (q), .int .i64 (bl), .int .i64 (SZ : Nat), .int .i64 (sl), .int .u64 (cu), .int .u64 (bm), .int .u64 (o1), .int .u64 (o2), .int .u32 (fl), .int .i64 (m)] ∧ Blk wA bF 27 #[.int .u64 (sq), .int .i64 (bl), .int .i64 (SZ : Nat), .int .i64 (sl), .int .u64 (cu), .int .u64 (bm), .int .u64 (o1), .int .u64 (o2), .int .u32 (fl), .int .i64 (mr)] ∧ wA.ownsRow H4 27 10 (.slice Ad (nD steps i) cd) (nD steps i') (flatS (supI f0 ms) (nD steps i')) ∧ (∀ g, (Value.slice Ad (nD steps i) cd).ownBlock = some g → ¬ O g) ∧ H4 ≤ wA.heap.size from
            ⟨i + 1, OA, _, sq + i, M, by go_num, by omega, HCURA.out, HINVA.out, hnSA, hnFA, HBSA.out, HBFA.out, by rw [hn1]; exact hownA, HDNA.out, hzA⟩)
          clear hae hok hownA hn1
          go_wp2_with fail
          go_roundw
          case rel => first | exact HREL.out | ((repeat apply Exists.intro); refine ⟨?_, rfl⟩; exact HREL.out)
          case measure => simp [intOf]; omega
      · have dR : decide (R < 0) = false := decide_eq_false hR
        have HM := Lib.hid (show mkN bl x = R by rw [HMK.out, if_neg hR])
        obtain ⟨M, eM⟩ : ∃ z, z = R := ⟨_, rfl⟩
        obtain ⟨w8, e8⟩ : ∃ z, z = w7 := ⟨_, rfl⟩
        rw [← eM] at HM HBS7
        have HBS8 := HBS7
        have HBF8 := HBF7
        have HCUR8 := HCUR7
        have HOWN8 := HOWN7
        rw [← e8] at HBS8 HBF8 HCUR8 HOWN8
        have hz8 : w8.heap.size = wr.heap.size := by rw [e8]; exact hz7
        have E8 := Lib.hid (show w7 = w8 from e8.symm)
        clear eM e8 hR
        go_upto_region 17 with (fail)
        rw [E8.out]
        clear yS9 gS9 dR
        have hfi : Fits (supI f0 ms i) := supI_fits HFI.out (by rw [EF.out]; show sq + (i : Int) ≤ _; omega)
        have hki : Kinds (supI f0 ms i) := supI_kinds HKI.out (by rw [EF.out]; show sq + (i : Int) ≤ _; omega)
        have ear : (supI f0 ms i).arr = #[.int .u64 (sq + i), .int .i64 (bl), .int .i64 (SZ : Nat), .int .i64 (sl), .int .u64 (cu), .int .u64 (bm), .int .u64 (o1), .int .u64 (o2), .int .u32 (fl), .int .i64 (M)] := by
          rw [EF.out]
          unfold supI Sup.arr
          simp only
          rw [← EX.out, HM.out]
        have hsz : (supI f0 ms i).sz.toNat = SZ := by rw [EF.out]; show ((SZ : Nat) : Int).toNat = SZ; omega
        have hsz2 : (supI f0 ms i).sz = (SZ : Nat) := by rw [EF.out]; rfl
        have hGi : G i = sealL K S (supI f0 ms i) := by rw [EG.out]
        have hglen : (G i).length = SZ := by rw [hGi, sealL_length K S _ hfi.2.2.2.2.1, hsz]
        have hSL := seal_ok K S (supI f0 ms i) w8 (HT.out.belowS HCUR8.out.bel) hki.2.2.2.2.2.1 hki.2.2.2.2.2.2 hki.2.1.1 hki.2.2.1.1 hki.2.2.2.1.1 hki.2.2.2.2.1.1
        rw [ear] at hSL
        have HSL := Lib.hid hSL
        have HFI2 := Lib.hid hfi
        have EAR := Lib.hid ear
        have HSZ2 := Lib.hid hsz
        have HGI := Lib.hid (And.intro hGi hglen)
        clear hfi hki ear hsz hsz2 hGi hglen hSL
        have x0 : w8.cell? ⟨bS, 0, none⟩ = some (.int .u64 (sq + i)) := HBS8.out.cell 0
        have x1 : w8.cell? ⟨bS, 1, none⟩ = some (.int .i64 (bl)) := HBS8.out.cell 1
        have x2 : w8.cell? ⟨bS, 2, none⟩ = some (.int .i64 (SZ : Nat)) := HBS8.out.cell 2
        have x3 : w8.cell? ⟨bS, 3, none⟩ = some (.int .i64 (sl)) := HBS8.out.cell 3
        have x4 : w8.cell? ⟨bS, 4, none⟩ = some (.int .u64 (cu)) := HBS8.out.cell 4
        have x5 : w8.cell? ⟨bS, 5, none⟩ = some (.int .u64 (bm)) := HBS8.out.cell 5
        have x6 : w8.cell? ⟨bS, 6, none⟩ = some (.int .u64 (o1)) := HBS8.out.cell 6
        have x7 : w8.cell? ⟨bS, 7, none⟩ = some (.int .u64 (o2)) := HBS8.out.cell 7
        have x8 : w8.cell? ⟨bS, 8, none⟩ = some (.int .u32 (fl)) := HBS8.out.cell 8
        have x9 : w8.cell? ⟨bS, 9, none⟩ = some (.int .i64 (M)) := HBS8.out.cell 9
        go_wp2_with fail
        refine HSL.out.mono ?_
        rintro e w9 ⟨hb9, hq9⟩
        rcases hq9 with ⟨_, B, hB, rfl, hrow⟩ | ⟨hno, _⟩
        case inr => exact absurd HFI2.out hno
        rw [HSZ2.out] at hrow ⊢
        obtain ⟨hGi, hglen⟩ := HGI.out
        have hcur9 : CurT w O w9 d s := HCUR8.out.below hb9
        have hrd9 : Rd .u8 w9 (.slice (some ⟨B, 0, none⟩) SZ SZ) (G i) := by
          have h9 := hrow.rd (G i) SZ (by omega) (by omega) (fun j _ => by rw [hGi])
          rw [hglen] at h9
          exact h9
        obtain ⟨P2, eP2⟩ : ∃ z, z = i % 2 := ⟨_, rfl⟩
        have ht2 : Int.tmod ((i : Nat) : Int) 2 = (P2 : Nat) := by rw [eP2, Int.tmod_eq_emod_of_nonneg (by omega)]; omega
        have hth := through_ok O w9 d s ((P2 : Nat) : Int) (.slice (some ⟨B, 0, none⟩) SZ SZ) (G i) hcur9.rep ⟨hrd9, fun b off n c e h0 hO => by
          simp only [Value.slice.injEq, Option.some.injEq, Addr.mk.injEq] at e
          have := HCUR8.out.rep.lt hO
          omega⟩
        have hst2 := HINV.out.step (g := G) (i := i) hglen
        rw [← eP2] at hst2
        have HTH := Lib.hid hth
        have HST2 := Lib.hid hst2
        have HCUR9 := Lib.hid hcur9
        have HBS9 := Lib.hid (HBS8.out.below hb9 HBS8.out.lt)
        have HBF9 := Lib.hid (HBF8.out.below hb9 HBF8.out.lt)
        have HOWN9 := Lib.hid (own_keepT HOWN8.out (fun g hg => hb9.block g (HOWN8.out.lt g hg).2))
        have hz9 : wr.heap.size ≤ w9.heap.size := by rw [← hz8]; exact hb9.size
        clear hb9 hrow hGi hglen hcur9 hrd9 eP2 hth hst2 x0 x1 x2 x3 x4 x5 x6 x7 x8 x9
        go_wp2_with fail
        refine HTH.out.mono ?_
        rintro e wA ⟨er, rfl, hae, hsA⟩
        obtain ⟨OA, hcurA, hOA⟩ := HCUR9.out.step hsA
        have hbSA : Blk wA bS 27 #[.int .u64 (sq + i), .int .i64 (bl), .int .i64 (SZ : Nat), .int .i64 (sl), .int .u64 (cu), .int .u64 (bm), .int .u64 (o1), .int .u64 (o2), .int .u32 (fl), .int .i64 (M)] := (hsA.1.block bS HBS9.out.lt hnS).trans HBS9.out
        have hbFA : Blk wA bF 27 #[.int .u64 (sq), .int .i64 (bl), .int .i64 (SZ : Nat), .int .i64 (sl), .int .u64 (cu), .int .u64 (bm), .int .u64 (o1), .int .u64 (o2), .int .u32 (fl), .int .i64 (mr)] := (hsA.1.block bF HBF9.out.lt hnF).trans HBF9.out
        have hownA := own_keepT HOWN9.out (fun g hg => hsA.1.block g (HOWN9.out.lt g hg).2 (HDN.out g hg))
        have hnSA : ¬ OA bS := fun h => (hOA bS h).elim hnS (fun h2 => by have := HBS9.out.lt; omega)
        have hnFA : ¬ OA bF := fun h => (hOA bF h).elim hnF (fun h2 => by have := HBF9.out.lt; omega)
        have hdnA : ∀ g, (Value.slice Ad (nD steps i) cd).ownBlock = some g → ¬ OA g := fun g hg h => (hOA g h).elim (HDN.out g hg) (fun h2 => by have := (HOWN9.out.lt g hg).2; omega)
        have hzA : H4 ≤ wA.heap.size := Nat.le_trans hH4 (Nat.le_trans hz9 hsA.1.size)
        obtain ⟨hinvA, hwe⟩ := HST2.out
        rw [hwe] at hae
        have HCURA := Lib.hid hcurA
        have HBSA := Lib.hid hbSA
        have HBFA := Lib.hid hbFA
        have HINVA := Lib.hid hinvA
        have HDNA := Lib.hid hdnA
        clear hsA hcurA hOA hbSA hbFA hinvA hwe hdnA HTH HST2
        by_cases hok : steps < 0 ∨ (i : Int) < steps
        · rw [if_pos hok] at hae
          have er0 : er = .nilIface := hae.elim (fun h => h.1) (fun ⟨b, _, _, h0, _⟩ => absurd rfl h0)
          have hn1 : nD steps i = i := by unfold nD; split <;> omega
          have hn2 : nD steps (i + 1) = i + 1 := by unfold nD; split <;> omega
          subst er0
          have hn3 : nD steps (i + 1) = nD steps i + 1 := by omega
          have hndi : nD steps i ≤ i := by omega
          have HOWNA := Lib.hid hownA
          have HN3 := Lib.hid (And.intro hn3 hn1)
          clear hae hok hownA hn1 hn2 hn3
          have x0 : wA.cell? ⟨bS, 0, none⟩ = some (.int .u64 (sq + i)) := HBSA.out.cell 0
          have x1 : wA.cell? ⟨bS, 1, none⟩ = some (.int .i64 (bl)) := HBSA.out.cell 1
          have x2 : wA.cell? ⟨bS, 2, none⟩ = some (.int .i64 (SZ : Nat)) := HBSA.out.cell 2
          have x3 : wA.cell? ⟨bS, 3, none⟩ = some (.int .i64 (sl)) := HBSA.out.cell 3
          have x4 : wA.cell? ⟨bS, 4, none⟩ = some (.int .u64 (cu)) := HBSA.out.cell 4
          have x5 : wA.cell? ⟨bS, 5, none⟩ = some (.int .u64 (bm)) := HBSA.out.cell 5
          have x6 : wA.cell? ⟨bS, 6, none⟩ = some (.int .u64 (o1)) := HBSA.out.cell 6
          have x7 : wA.cell? ⟨bS, 7, none⟩ = some (.int .u64 (o2)) := HBSA.out.cell 7
          have x8 : wA.cell? ⟨bS, 8, none⟩ = some (.int .u32 (fl)) := HBSA.out.cell 8
          have x9 : wA.cell? ⟨bS, 9, none⟩ = some (.int .i64 (M)) := HBSA.out.cell 9
          go_wp2_with (with_reducible refine app10at rfl (.tmp 97) (.tmp 99) 36 rfl H4 27 (.agg #[.int .u64 0, .int .i64 0, .int .i64 0, .int .i64 0, .int .u64 0, .int .u64 0, .int .u64 0, .int .u64 0, .int .u32 0, .int .i64 0]) 80 Tryd.underlying36 info_super rfl (.slice Ad (nD steps i) cd) (nD steps i) (flatS (supI f0 ms) (nD steps i)) rfl HOWNA.out [.int .u64 (sq + i), .int .i64 (bl), .int .i64 (SZ : Nat), .int .i64 (sl), .int .u64 (cu), .int .u64 (bm), .int .u64 (o1), .int .u64 (o2), .int .u32 (fl), .int .i64 (M)] rfl 1 rfl ?c0 ?c1 ?c2 hzA ?_)
          case c0 => simp [Value.oneCell']
          case c1 => unfold maxLen; omega
          case c2 => omega
          intro v4 wB hoB hgB hlB
          have hown9 : ∀ g, (Value.slice Ad (nD steps i) cd).ownBlock = some g → H4 ≤ g := fun g hg => (HOWNA.out.lt g hg).1
          have HREL := Lib.hid (show ∃ (i' : Nat) (O : Nat → Prop) (s : DSt) (q m : Int), Value.int .i64 ((i : Int) + 1) = .int .i64 (i' : Nat) ∧ i' ≤ NM ∧ CurT w O wB d s ∧ TInv G SZ steps i' s ∧ ¬ O bS ∧ ¬ O bF ∧ Blk wB bS 27 #[.int .u64 (q), .int .i64 (bl), .int .i64 (SZ : Nat), .int .i64 (sl), .int .u64 (cu), .int .u64 (bm), .int .u64 (o1), .int .u64 (o2), .int .u32 (fl), .int .i64 (m)] ∧ Blk wB bF 27 #[.int .u64 (sq), .int .i64 (bl), .int .i64 (SZ : Nat), .int .i64 (sl), .int .u64 (cu), .int .u64 (bm), .int .u64 (o1), .int .u64 (o2), .int .u32 (fl), .int .i64 (mr)] ∧ wB.ownsRow H4 27 10 v4 (nD steps i') (flatS (supI f0 ms) (nD steps i')) ∧ (∀ g, v4.ownBlock = some g → ¬ O g) ∧ H4 ≤ wB.heap.size from
            ⟨i + 1, OA, _, sq + i, M, by go_num, by omega, HCURA.out.grown hgB (fun g hg => ⟨HDNA.out g hg, Nat.le_trans HWH.out (hown9 g hg)⟩), HINVA.out, hnSA, hnFA,
              (hgB.block bS HBSA.out.lt (fun h => by have := hown9 bS h.symm; omega)).trans HBSA.out, (hgB.block bF HBFA.out.lt (fun h => by have := hown9 bF h.symm; omega)).trans HBFA.out, by
                rw [HN3.out.1]
                have e : flatS (supI f0 ms) (nD steps i + 1) = flatS (supI f0 ms) (nD steps i) ++ [.int .u64 (sq + i), .int .i64 (bl), .int .i64 (SZ : Nat), .int .i64 (sl), .int .u64 (cu), .int .u64 (bm), .int .u64 (o1), .int .u64 (o2), .int .u32 (fl), .int .i64 (M)] := by
                  rw [flatS, HN3.out.2, EAR.out]
                rw [e]; exact hoB, fun g hg h => (hlB g hg).elim (fun h2 => HDNA.out g h2 h) (fun h2 => by have := HCURA.out.rep.lt h; omega), Nat.le_trans hzA hgB.size⟩)
          clear hoB hgB hlB hown9
          go_wp2_with fail
          go_roundw
          case rel => first | exact HREL.out | ((repeat apply Exists.intro); refine ⟨?_, rfl⟩; exact HREL.out)
          case measure => simp [intOf]; omega
        · rw [if_neg hok] at hae
          obtain ⟨bE, er0⟩ : ∃ b, er = .iface 87 (.pointer (some ⟨b, 0, none⟩)) := hae.elim (fun h => absurd h.2 (by decide)) (fun ⟨b, h, _⟩ => ⟨b, h⟩)
          have hn1 : nD steps (i + 1) = nD steps i := by unfold nD; split <;> omega
          have ds1 : decide (steps < 0) = false := decide_eq_false (by omega)
          have ds2 : decide ((i : Int) < steps) = false := decide_eq_false (by omega)
          subst er0
          have HREL := Lib.hid (show ∃ (i' : Nat) (O : Nat → Prop) (s : DSt) (q m : Int), Value.int .i64 ((i : Int) + 1) = .int .i64 (i' : Nat) ∧ i' ≤ NM ∧ CurT w O wA d s ∧ TInv G SZ steps i' s ∧ ¬ O bS ∧ ¬ O bF ∧ Blk wA bS 27 #[.int .u64 (q), .int .i64 (bl), .int .i64 (SZ : Nat), .int .i64 (sl), .int .u64 (cu), .int .u64 (bm), .int .u64 (o1), .int .u64 (o2), .int .u32 (fl), .int .i64 (m)] ∧ Blk wA bF 27 #[.int .u64 (sq), .int .i64 (bl), .int .i64 (SZ : Nat), .int .i64 (sl), .int .u64 (cu), .int .u64 (bm), .int .u64 (o1), .int .u64 (o2), .int .u32 (fl), .int .i64 (mr)] ∧ wA.ownsRow H4 27 10 (.slice Ad (nD steps i) cd) (nD steps i') (flatS (supI f0 ms) (nD steps i')) ∧ (∀ g, (Value.slice Ad (nD steps i) cd).ownBlock = some g → ¬ O g) ∧ H4 ≤ wA.heap.size from
            ⟨i + 1, OA, _, sq + i, M, by go_num, by omega, HCURA.out, HINVA.out, hnSA, hnFA, HBSA.out, HBFA.out, by rw [hn1]; exact hownA, HDNA.out, hzA⟩)
          clear hae hok hownA hn1
          go_wp2_with fail
          go_roundw
          case rel => first | exact HREL.out | ((repeat apply Exists.intro); refine ⟨?_, rfl⟩; exact HREL.out)
          case measure => simp [intOf]; omega
    · obtain rfl : NM = i := by omega
      have di : decide (NM < NM) = false := decide_eq_false (by omega)
      obtain ⟨N, eN⟩ : ∃ z, z = nD steps NM := ⟨_, rfl⟩
      have hdur := hinv.dur
      rw [← eN] at hown hdur ⊢
      have hNM2 : N ≤ NM := by rw [eN]; unfold nD; split <;> omega
      have hcr := crash_ok O wr d s (.slice Ap NP cp) ps hcur.rep ⟨HPS.out.below hcur.bel, fun b off n c e h0 hO => by
        rcases HPS.out with ⟨h9, A, c9, e9⟩ | ⟨b9, off9, c9, e9, _, _, h9, _⟩
        · simp only [Value.slice.injEq] at e9 e
          have k1 := e9.2.1
          have k2 := e.2.1
          omega
        · rw [e9] at e
          simp only [Value.slice.injEq, Option.some.injEq, Addr.mk.injEq] at e
          have := hcur.lo b hO
          omega⟩ HPB.out (by have := HPL.out; omega) (fun k => by rw [hinv.ca]; simp)
      rw [hinv.crash ps] at hcr
      have hfC : ∀ sC : DSt, sC = { s with off := false, fused := false } → sC.nb = 2 ∧ sC.off = false ∧ sC.ca = (fun _ => []) ∧ sC.sp = (fun _ => false) ∧ sC.dur = durT G SZ N := fun sC e => by rw [e]; exact ⟨hinv.nb, rfl, hinv.ca, hinv.sp, hdur⟩
      obtain ⟨sC, esC⟩ : ∃ z, z = ({ s with off := false, fused := false } : DSt) := ⟨_, rfl⟩
      obtain ⟨c1, c2, c3, c4, c5⟩ := hfC sC esC
      rw [← esC] at hcr
      have HCR := Lib.hid hcr
      have HCUR := Lib.hid hcur
      have HOWN := Lib.hid hown
      have HDN := Lib.hid (show ∀ g, (Value.slice Ad N cd).ownBlock = some g → ¬ O g from fun g hg => hdn g (by cases Ad <;> exact hg))
      have HSC := Lib.hid (And.intro c1 (And.intro c2 (And.intro c3 (And.intro c4 c5))))
      have HSUM := Lib.hid (show sq + (NM : Int) ≤ 4611686018427387904 by omega)
      clear hfC c1 c2 c3 c4 c5 esC hcr hcur hown hdn hinv hdur eN hbS hbF hnS hnF hlt
      go_wp2_with fail
      refine HCR.out.mono ?_
      rintro e wC ⟨rfl, hsC⟩
      obtain ⟨OC, hcurC, hOC⟩ := HCUR.out.step hsC
      have hownC : wC.ownsRow H4 27 10 (.slice Ad N cd) N (flatS (supI f0 ms) N) := own_keepT HOWN.out (fun g hg => hsC.1.block g (HOWN.out.lt g hg).2 (HDN.out g hg))
      have hdnC : ∀ g, (Value.slice Ad N cd).ownBlock = some g → ¬ OC g := fun g hg h => (hOC g h).elim (HDN.out g hg) (fun h2 => by have := (HOWN.out.lt g hg).2; omega)
      have HCC := Lib.hid hcurC
      have HOC := Lib.hid hownC
      have HDC := Lib.hid hdnC
      clear hsC hcurC hOC hownC hdnC HCR
      have HBY := Lib.hid (fun sp k N => show Bytes (slotT G SZ N sp k) by rw [EG.out]; exact slotT_bytes (supI f0 ms) SZ sp k N)
      have HPU := Lib.hid (fun sp => turns_pure (unF K S) G (supI f0 ms) SZ N sp (fun j hj => by
        rw [EG.out]
        have hjs : f0.sq + j ≤ 4611686018427387904 := by rw [EF.out]; show sq + (j : Int) ≤ _; have := HSUM.out; omega
        exact unF_seal K S _ (supI_fits HFI.out hjs) (supI_kinds HKI.out hjs)) (unF_zeros K S SZ) (unF_nil K S) (fun j => by show f0.sq + ((j + 1 : Nat) : Int) = f0.sq + j + 1; omega))
      cases spl
      · have HCT := HCC
        have HOT := HOC
        have HDT := HDC
        have HST := Lib.hid (show sC.nb = 2 ∧ sC.off = false ∧ sC.ca = (fun _ => []) ∧ (∀ k : Nat, k < 2 → readX sC (k : Nat) = slotT G SZ N false k) from by
          obtain ⟨c1, c2, c3, c4, c5⟩ := HSC.out
          refine ⟨c1, c2, c3, fun k hk => ?_⟩
          rw [readX_slot c1 c2 c3 k hk, c4, c5]
          unfold slotT
          rw [if_neg (fun h => by simp at h), if_neg (fun h => by have := h.1; simp at this)])
        have HR0 := Lib.hid (read_ok OC wC d sC 0 HCT.out.rep (by rw [HST.out.2.2.1]; simp))
        go_wp2_with fail
        refine HR0.out.mono ?_
        rintro e wX ⟨v0, er0, rfl, hv0, he0, hoX, hdX⟩
        obtain ⟨r1, r2, r3, r4, r5⟩ := readS_f sC 0
        have HR1 := Lib.hid (read_ok OC wX d (readS sC 0) 1 hdX (by rw [r3, HST.out.2.2.1]; simp))
        have hx0 : readX sC 0 = slotT G SZ N false 0 := HST.out.2.2.2 0 (by decide)
        have hx1 : readX (readS sC 0) 1 = slotT G SZ N false 1 := by
          rw [← HST.out.2.2.2 1 (by decide)]
          have e1 := readX_slot (s := readS sC 0) (by rw [r1]; exact HST.out.1) (by rw [r2]; exact HST.out.2.1) (by rw [r3]; exact HST.out.2.2.1) 1 (by decide)
          have e2 := readX_slot (s := sC) HST.out.1 HST.out.2.1 HST.out.2.2.1 1 (by decide)
          rw [r4, r5] at e1
          exact e1.trans e2.symm
        rw [hx0] at hv0
        rw [hx1] at HR1
        obtain ⟨A0, n0, c0, ev0⟩ : ∃ A n c, v0 = .slice A n c := by obtain ⟨A, c, h⟩ := hv0.rd.slice; exact ⟨A, _, c, h⟩
        have HV0 := Lib.hid hv0
        have HOX := Lib.hid hoX
        have HDX := Lib.hid hdX
        clear hv0 hoX hdX hx0 hx1 r1 r2 r3 r4 r5 HR0
        subst ev0
        go_wp2_with fail
        refine HR1.out.mono ?_
        rintro e wY ⟨v1, er1, rfl, hv1, he1, hoY, hdY⟩
        obtain ⟨A1, n1, c1, ev1⟩ : ∃ A n c, v1 = .slice A n c := by obtain ⟨A, c, h⟩ := hv1.rd.slice; exact ⟨A, _, c, h⟩
        subst ev1
        have hbX : Below w.heap.size w wX := HCT.out.bel.trans (HOX.out.below HCT.out.bel.size (fun b hb => HCT.out.lo b hb))
        have hbY : Below w.heap.size w wY := hbX.trans (hoY.below hbX.size (fun b hb => HCT.out.lo b hb))
        have hrd0 : Rd .u8 wY (.slice A0 n0 c0) (slotT G SZ N false 0) := by
          rcases HV0.out with ⟨h1, h2⟩ | ⟨B, e, hB, hr⟩
          · rw [h1, h2]; exact .inl ⟨rfl, _, _, rfl⟩
          · exact AnsP.rd (lo := wC.heap.size) (.inr ⟨B, e, hB, hr.keep (hoY.block B hr.lt (fun hO => by have := HCT.out.rep.lt hO; omega))⟩)
        have hcho := choose_ok (unF K S (slotT G SZ N false 0)) (unF K S (slotT G SZ N false 1)) (.slice A0 n0 c0) (.slice A1 n1 c1) wY (fun w1 hb => unseal_ok K S _ _ w1 ((HT.out.belowS hbY).belowS hb) (hrd0.below hb) (HBY.out _ 0 N)) (fun w1 hb => unseal_ok K S _ _ w1 ((HT.out.belowS hbY).belowS hb) (hv1.rd.below hb) (HBY.out _ 1 N))
        have hownY : wY.ownsRow H4 27 10 (.slice Ad N cd) N (flatS (supI f0 ms) N) := own_keepT (own_keepT HOT.out (fun g hg => HOX.out.block g (HOT.out.lt g hg).2 (HDT.out g hg))) (fun g hg => hoY.block g (Nat.lt_of_lt_of_le (HOT.out.lt g hg).2 HOX.out.size) (HDT.out g hg))
        have hpl := HPU.out false
        obtain ⟨r, er⟩ : ∃ z, z = chF (unF K S (slotT G SZ N false 0)) (unF K S (slotT G SZ N false 1)) := ⟨_, rfl⟩
        rw [← er] at hcho hpl
        have HCHO := Lib.hid hcho
        have HBYW := Lib.hid hbY
        have HOY := Lib.hid hownY
        have HPL2 := Lib.hid hpl
        clear hv1 he0 he1 hoY hdY hbX hbY hrd0 hcho hownY hpl er HR1
        go_wp2_with fail
        refine HCHO.out.mono ?_
        rintro e wZ ⟨rfl, hbZ⟩
        have HBZ := Lib.hid (HBYW.out.trans ⟨hbZ.os, hbZ.tape, hbZ.output, hbZ.size, fun b hb => hbZ.block b (Nat.lt_of_lt_of_le hb HBYW.out.size)⟩)
        have HOZ := Lib.hid (own_keepT HOY.out (fun g hg => hbZ.block g (HOY.out.lt g hg).2))
        clear hbZ
        obtain ⟨b24, eb24⟩ : ∃ z, z = wZ.heap.size := ⟨_, rfl⟩
        have EB24 := Lib.hid (show wZ.heap.size = b24 from eb24.symm)
        have hwZ : w.heap.size ≤ wZ.heap.size := HBZ.out.size
        clear eb24
        by_cases hl0 : leftT N false = 0
        · obtain ⟨⟨rq, rb, rs, rl, rcu, rbm, ro1, ro2, rf, rm⟩, rat, rge⟩ := r
          have hge : rge ≠ 0 := by have h := HPL2.out; rw [if_pos hl0] at h; exact h
          have dge : (rge != 0) = true := by rw [bne_iff_ne]; exact hge
          have dn0 : (((N : Nat) : Int) == 0) = true := by rw [beq_iff_eq]; have := hl0; unfold leftT at this; rw [if_neg (fun h => by simp at h)] at this; omega
          have HE := Lib.hid (HF.out (wZ.alloc (.cells #[.int .u64 rq, .int .i64 rb, .int .i64 rs, .int .i64 rl, .int .u64 rcu, .int .u64 rbm, .int .u64 ro1, .int .u64 ro2, .int .u32 rf, .int .i64 rm] 27)) (HBZ.out.alloc hwZ _))
          have hN9 : N = 0 := by have := hl0; unfold leftT at this; rw [if_neg (fun h => by simp at h)] at this; omega
          have hN8 : ((N : Nat) : Int) = 0 := by omega
          clear hge hl0
          simp only [Sup.arr]
          go_wp2_with fail
          first | exact HE.out | (go_ret; exact HE.out)
        · have hr := HPL2.out
          rw [if_neg hl0] at hr
          subst hr
          obtain ⟨j, ej⟩ : ∃ z, z = leftT N false - 1 := ⟨_, rfl⟩
          have hjN : N = j + 1 ∧ j < N := by rw [ej]; unfold leftT at hl0 ⊢; rw [if_neg (fun h => by simp at h)] at hl0 ⊢; omega
          rw [← ej]
          obtain ⟨hN1, hN2⟩ := hjN
          obtain ⟨M, eM⟩ : ∃ z, z = mkN bl (ms.getD j 0) := ⟨_, rfl⟩
          have ear : (supI f0 ms j).arr = #[.int .u64 (sq + j), .int .i64 (bl), .int .i64 (SZ : Nat), .int .i64 (sl), .int .u64 (cu), .int .u64 (bm), .int .u64 (o1), .int .u64 (o2), .int .u32 (fl), .int .i64 (M)] := by
            rw [EF.out]
            unfold supI Sup.arr
            simp only
            rw [← eM]
          simp only
          rw [ear]
          obtain ⟨wQ, ewQ⟩ : ∃ z, z = wZ.alloc (.cells #[.int .u64 (sq + j), .int .i64 (bl), .int .i64 (SZ : Nat), .int .i64 (sl), .int .u64 (cu), .int .u64 (bm), .int .u64 (o1), .int .u64 (o2), .int .u32 (fl), .int .i64 (M)] 27) := ⟨_, rfl⟩
          have hbQ : Blk wQ b24 27 #[.int .u64 (sq + j), .int .i64 (bl), .int .i64 (SZ : Nat), .int .i64 (sl), .int .u64 (cu), .int .u64 (bm), .int .u64 (o1), .int .u64 (o2), .int .u32 (fl), .int .i64 (M)] := by rw [ewQ, ← EB24.out]; exact Blk.new _ _ _
          have hoQ : wQ.ownsRow H4 27 10 (.slice Ad N cd) N (flatS (supI f0 ms) N) := by rw [ewQ]; exact HOZ.out.alloc _
          obtain ⟨gD, cD, hvD, _, hgD⟩ := hoQ.form (by omega)
          simp only [Value.slice.injEq] at hvD
          obtain ⟨hv1, _, hv2⟩ := hvD
          subst hv1
          subst hv2
          have hcD : ∀ k, k < 10 → wQ.cell? ⟨gD, j * 10 + k, none⟩ = #[.int .u64 (sq + j), .int .i64 (bl), .int .i64 (SZ : Nat), .int .i64 (sl), .int .u64 (cu), .int .u64 (bm), .int .u64 (o1), .int .u64 (o2), .int .u32 (fl), .int .i64 (M)][k]? := fun k hk => by
            rw [hoQ.cellAt (j * 10 + k) (by omega), flatS_get _ N j k hN2 hk, ear]
          have HE := Lib.hid (fun m => HF.out (wQ.drewN m) (by rw [ewQ]; exact below_drewN (HBZ.out.alloc hwZ _) m))
          have EWQ := Lib.hid ewQ
          have HBQ := Lib.hid hbQ
          have dn0 : (((N : Nat) : Int) == 0) = false := by rw [beq_eq_false_iff_ne]; omega
          have hN9 : ¬ N = 0 := by omega
          have hN8 : ¬ ((N : Nat) : Int) = 0 := by omega
          obtain ⟨P3, eP3⟩ : ∃ z, z = j % 2 := ⟨_, rfl⟩
          have ht3 : Int.tmod ((j : Nat) : Int) 2 = (P3 : Nat) := by rw [eP3, Int.tmod_eq_emod_of_nonneg (by omega)]; omega
          have hsub : IntKind.i64.wrap (((N : Nat) : Int) - 1) = (j : Nat) := by rw [IntWalk.i64_in _ (by omega)]; omega
          have hbQ2 : b24 < wQ.heap.size := HBQ.out.lt
          rw [← eP3]
          clear hl0 ej ear ewQ hbQ hoQ eP3 eM
          have z0 : wQ.cell? ⟨b24, 0, none⟩ = some (.int .u64 (sq + j)) := HBQ.out.cell 0
          have d0 : wQ.cell? ⟨gD, j * 10, none⟩ = some (.int .u64 (sq + j)) := by have h9 := hcD 0 (by omega); rw [Nat.add_zero] at h9; exact h9
          have z1 : wQ.cell? ⟨b24, 1, none⟩ = some (.int .i64 (bl)) := HBQ.out.cell 1
          have d1 : wQ.cell? ⟨gD, j * 10 + 1, none⟩ = some (.int .i64 (bl)) := hcD 1 (by omega)
          have z2 : wQ.cell? ⟨b24, 2, none⟩ = some (.int .i64 (SZ : Nat)) := HBQ.out.cell 2
          have d2 : wQ.cell? ⟨gD, j * 10 + 2, none⟩ = some (.int .i64 (SZ : Nat)) := hcD 2 (by omega)
          have z3 : wQ.cell? ⟨b24, 3, none⟩ = some (.int .i64 (sl)) := HBQ.out.cell 3
          have d3 : wQ.cell? ⟨gD, j * 10 + 3, none⟩ = some (.int .i64 (sl)) := hcD 3 (by omega)
          have z4 : wQ.cell? ⟨b24, 4, none⟩ = some (.int .u64 (cu)) := HBQ.out.cell 4
          have d4 : wQ.cell? ⟨gD, j * 10 + 4, none⟩ = some (.int .u64 (cu)) := hcD 4 (by omega)
          have z5 : wQ.cell? ⟨b24, 5, none⟩ = some (.int .u64 (bm)) := HBQ.out.cell 5
          have d5 : wQ.cell? ⟨gD, j * 10 + 5, none⟩ = some (.int .u64 (bm)) := hcD 5 (by omega)
          have z6 : wQ.cell? ⟨b24, 6, none⟩ = some (.int .u64 (o1)) := HBQ.out.cell 6
          have d6 : wQ.cell? ⟨gD, j * 10 + 6, none⟩ = some (.int .u64 (o1)) := hcD 6 (by omega)
          have z7 : wQ.cell? ⟨b24, 7, none⟩ = some (.int .u64 (o2)) := HBQ.out.cell 7
          have d7 : wQ.cell? ⟨gD, j * 10 + 7, none⟩ = some (.int .u64 (o2)) := hcD 7 (by omega)
          have z8 : wQ.cell? ⟨b24, 8, none⟩ = some (.int .u32 (fl)) := HBQ.out.cell 8
          have d8 : wQ.cell? ⟨gD, j * 10 + 8, none⟩ = some (.int .u32 (fl)) := hcD 8 (by omega)
          have z9 : wQ.cell? ⟨b24, 9, none⟩ = some (.int .i64 (M)) := HBQ.out.cell 9
          have d9 : wQ.cell? ⟨gD, j * 10 + 9, none⟩ = some (.int .i64 (M)) := hcD 9 (by omega)
          clear hcD
          go_upto_region 31 with (fail)
          rw [← EWQ.out, EB24.out]
          go_wp2_with fail
          go_quiet (fail)
          go_wp2_with fail
          first | exact HE.out _ | (go_ret; exact HE.out _)
      · by_cases hN0 : N = 0
        · have dN : decide ((0 : Int) < (N : Nat)) = false := decide_eq_false (by omega)
          have dN2 : decide (0 < N) = false := decide_eq_false (by omega)
          have HCT := HCC
          have HOT := HOC
          have HDT := HDC
          have HST := Lib.hid (show sC.nb = 2 ∧ sC.off = false ∧ sC.ca = (fun _ => []) ∧ (∀ k : Nat, k < 2 → readX sC (k : Nat) = slotT G SZ N true k) from by
            obtain ⟨c1, c2, c3, c4, c5⟩ := HSC.out
            refine ⟨c1, c2, c3, fun k hk => ?_⟩
            rw [readX_slot c1 c2 c3 k hk, c4, c5]
            unfold slotT
            rw [if_neg (fun h => by simp at h), if_neg (fun h => by have := h.2.1; omega)])
          have HR0 := Lib.hid (read_ok OC wC d sC 0 HCT.out.rep (by rw [HST.out.2.2.1]; simp))
          go_wp2_with fail
          refine HR0.out.mono ?_
          rintro e wX ⟨v0, er0, rfl, hv0, he0, hoX, hdX⟩
          obtain ⟨r1, r2, r3, r4, r5⟩ := readS_f sC 0
          have HR1 := Lib.hid (read_ok OC wX d (readS sC 0) 1 hdX (by rw [r3, HST.out.2.2.1]; simp))
          have hx0 : readX sC 0 = slotT G SZ N true 0 := HST.out.2.2.2 0 (by decide)
          have hx1 : readX (readS sC 0) 1 = slotT G SZ N true 1 := by
            rw [← HST.out.2.2.2 1 (by decide)]
            have e1 := readX_slot (s := readS sC 0) (by rw [r1]; exact HST.out.1) (by rw [r2]; exact HST.out.2.1) (by rw [r3]; exact HST.out.2.2.1) 1 (by decide)
            have e2 := readX_slot (s := sC) HST.out.1 HST.out.2.1 HST.out.2.2.1 1 (by decide)
            rw [r4, r5] at e1
            exact e1.trans e2.symm
          rw [hx0] at hv0
          rw [hx1] at HR1
          obtain ⟨A0, n0, c0, ev0⟩ : ∃ A n c, v0 = .slice A n c := by obtain ⟨A, c, h⟩ := hv0.rd.slice; exact ⟨A, _, c, h⟩
          have HV0 := Lib.hid hv0
          have HOX := Lib.hid hoX
          have HDX := Lib.hid hdX
          clear hv0 hoX hdX hx0 hx1 r1 r2 r3 r4 r5 HR0
          subst ev0
          go_wp2_with fail
          refine HR1.out.mono ?_
          rintro e wY ⟨v1, er1, rfl, hv1, he1, hoY, hdY⟩
          obtain ⟨A1, n1, c1, ev1⟩ : ∃ A n c, v1 = .slice A n c := by obtain ⟨A, c, h⟩ := hv1.rd.slice; exact ⟨A, _, c, h⟩
          subst ev1
          have hbX : Below w.heap.size w wX := HCT.out.bel.trans (HOX.out.below HCT.out.bel.size (fun b hb => HCT.out.lo b hb))
          have hbY : Below w.heap.size w wY := hbX.trans (hoY.below hbX.size (fun b hb => HCT.out.lo b hb))
          have hrd0 : Rd .u8 wY (.slice A0 n0 c0) (slotT G SZ N true 0) := by
            rcases HV0.out with ⟨h1, h2⟩ | ⟨B, e, hB, hr⟩
            · rw [h1, h2]; exact .inl ⟨rfl, _, _, rfl⟩
            · exact AnsP.rd (lo := wC.heap.size) (.inr ⟨B, e, hB, hr.keep (hoY.block B hr.lt (fun hO => by have := HCT.out.rep.lt hO; omega))⟩)
          have hcho := choose_ok (unF K S (slotT G SZ N true 0)) (unF K S (slotT G SZ N true 1)) (.slice A0 n0 c0) (.slice A1 n1 c1) wY (fun w1 hb => unseal_ok K S _ _ w1 ((HT.out.belowS hbY).belowS hb) (hrd0.below hb) (HBY.out _ 0 N)) (fun w1 hb => unseal_ok K S _ _ w1 ((HT.out.belowS hbY).belowS hb) (hv1.rd.below hb) (HBY.out _ 1 N))
          have hownY : wY.ownsRow H4 27 10 (.slice Ad N cd) N (flatS (supI f0 ms) N) := own_keepT (own_keepT HOT.out (fun g hg => HOX.out.block g (HOT.out.lt g hg).2 (HDT.out g hg))) (fun g hg => hoY.block g (Nat.lt_of_lt_of_le (HOT.out.lt g hg).2 HOX.out.size) (HDT.out g hg))
          have hpl := HPU.out true
          obtain ⟨r, er⟩ : ∃ z, z = chF (unF K S (slotT G SZ N true 0)) (unF K S (slotT G SZ N true 1)) := ⟨_, rfl⟩
          rw [← er] at hcho hpl
          have HCHO := Lib.hid hcho
          have HBYW := Lib.hid hbY
          have HOY := Lib.hid hownY
          have HPL2 := Lib.hid hpl
          clear hv1 he0 he1 hoY hdY hbX hbY hrd0 hcho hownY hpl er HR1
          go_wp2_with fail
          refine HCHO.out.mono ?_
          rintro e wZ ⟨rfl, hbZ⟩
          have HBZ := Lib.hid (HBYW.out.trans ⟨hbZ.os, hbZ.tape, hbZ.output, hbZ.size, fun b hb => hbZ.block b (Nat.lt_of_lt_of_le hb HBYW.out.size)⟩)
          have HOZ := Lib.hid (own_keepT HOY.out (fun g hg => hbZ.block g (HOY.out.lt g hg).2))
          clear hbZ
          obtain ⟨b24, eb24⟩ : ∃ z, z = wZ.heap.size := ⟨_, rfl⟩
          have EB24 := Lib.hid (show wZ.heap.size = b24 from eb24.symm)
          have hwZ : w.heap.size ≤ wZ.heap.size := HBZ.out.size
          clear eb24
          by_cases hl0 : leftT N true = 0
          · obtain ⟨⟨rq, rb, rs, rl, rcu, rbm, ro1, ro2, rf, rm⟩, rat, rge⟩ := r
            have hge : rge ≠ 0 := by have h := HPL2.out; rw [if_pos hl0] at h; exact h
            have dge : (rge != 0) = true := by rw [bne_iff_ne]; exact hge
            have dn0 : (((N : Nat) : Int) == 0) = true := by rw [beq_iff_eq]; have := hl0; unfold leftT at this; omega
            have HE := Lib.hid (HF.out (wZ.alloc (.cells #[.int .u64 rq, .int .i64 rb, .int .i64 rs, .int .i64 rl, .int .u64 rcu, .int .u64 rbm, .int .u64 ro1, .int .u64 ro2, .int .u32 rf, .int .i64 rm] 27)) (HBZ.out.alloc hwZ _))
            have hN9 : N = 0 := by have := hl0; unfold leftT at this; omega
            have hN8 : ((N : Nat) : Int) = 0 := by omega
            clear hge hl0
            simp only [Sup.arr]
            go_wp2_with fail
            first | exact HE.out | (go_ret; exact HE.out)
          · exact absurd (by unfold leftT; rw [if_neg (fun h => by have := h.2; omega)]; exact hN0) hl0
        · obtain ⟨N1, eN1⟩ : ∃ z, z = N - 1 := ⟨_, rfl⟩
          have hN1s : N = N1 + 1 := by omega
          have dN : decide ((0 : Int) < (N : Nat)) = true := decide_eq_true (by omega)
          have dN2 : decide (0 < N) = true := decide_eq_true (by omega)
          have hsb1 : IntKind.i64.wrap (((N : Nat) : Int) - 1) = (N1 : Nat) := by rw [IntWalk.i64_in _ (by omega)]; omega
          have hsb2 : ((N : Nat) : Int) - 1 = (N1 : Nat) := by omega
          obtain ⟨Q4, eQ4⟩ : ∃ z, z = N1 % 2 := ⟨_, rfl⟩
          have ht4 : Int.tmod ((N1 : Nat) : Int) 2 = (Q4 : Nat) := by rw [eQ4, Int.tmod_eq_emod_of_nonneg (by omega)]; omega
          have hin : sC.inr ((Q4 : Nat) : Int) := ⟨by omega, by rw [HSC.out.1]; omega⟩
          have hsp := spoil_ok OC wC d sC ((Q4 : Nat) : Int) HCC.out.rep
          have he0 : spoilE sC ((Q4 : Nat) : Int) = 0 := by unfold spoilE; rw [if_pos hin]
          have hs0 : spoilS sC ((Q4 : Nat) : Int) = { sC with sp := setS sC.sp Q4 } := by unfold spoilS; rw [if_pos hin, Int.toNat_natCast]
          rw [he0, hs0] at hsp
          obtain ⟨sD, esD⟩ : ∃ z, z = ({ sC with sp := setS sC.sp Q4 } : DSt) := ⟨_, rfl⟩
          rw [← esD] at hsp
          have HST := Lib.hid (show sD.nb = 2 ∧ sD.off = false ∧ sD.ca = (fun _ => []) ∧ (∀ k : Nat, k < 2 → readX sD (k : Nat) = slotT G SZ N true k) from by
            obtain ⟨c1, c2, c3, c4, c5⟩ := HSC.out
            have d1 : sD.nb = 2 := by rw [esD]; exact c1
            have d2 : sD.off = false := by rw [esD]; exact c2
            have d3 : sD.ca = fun _ => [] := by rw [esD]; exact c3
            have d4 : sD.sp = setS (fun _ => false) Q4 := by rw [esD]; show setS sC.sp Q4 = _; rw [c4]
            have d5 : sD.dur = durT G SZ N := by rw [esD]; exact c5
            refine ⟨d1, d2, d3, fun k hk => ?_⟩
            rw [readX_slot d1 d2 d3 k hk, d4, d5]
            unfold slotT setS
            by_cases e : k = Q4
            · rw [if_pos e, if_pos rfl, if_pos ⟨rfl, by omega, by rw [e, eQ4, eN1]⟩]
            · rw [if_neg e, if_neg (fun h => by simp at h), if_neg (fun h => e (by rw [h.2.2, eQ4, eN1]))])
          have HSP := Lib.hid hsp
          have EQ4 := Lib.hid eQ4
          have HN1S := Lib.hid hN1s
          clear hin hsp he0 hs0 esD eQ4 eN1 hN1s
          go_wp2_with fail
          refine HSP.out.mono ?_
          rintro e wD ⟨er, rfl, hae, hsD⟩
          have er0 : er = .nilIface := hae.elim (fun h => h.1) (fun ⟨b, _, _, h0, _⟩ => absurd rfl h0)
          subst er0
          obtain ⟨OD, hcurD, hOD⟩ := HCC.out.step hsD
          have HCT := Lib.hid hcurD
          have HOT := Lib.hid (own_keepT HOC.out (fun g hg => hsD.1.block g (HOC.out.lt g hg).2 (HDC.out g hg)))
          have HDT := Lib.hid (show ∀ g, (Value.slice Ad N cd).ownBlock = some g → ¬ OD g from fun g hg h => (hOD g h).elim (HDC.out g hg) (fun h2 => by have := (HOC.out.lt g hg).2; omega))
          have hq1 : N ≤ N1 + 1 := by have := HN1S.out; omega
          have hq2 : N1 + 1 ≤ N := by have := HN1S.out; omega
          clear hae hsD hcurD hOD HSP
          have HR0 := Lib.hid (read_ok OD wD d sD 0 HCT.out.rep (by rw [HST.out.2.2.1]; simp))
          go_wp2_with fail
          refine HR0.out.mono ?_
          rintro e wX ⟨v0, er0, rfl, hv0, he0, hoX, hdX⟩
          obtain ⟨r1, r2, r3, r4, r5⟩ := readS_f sD 0
          have HR1 := Lib.hid (read_ok OD wX d (readS sD 0) 1 hdX (by rw [r3, HST.out.2.2.1]; simp))
          have hx0 : readX sD 0 = slotT G SZ N true 0 := HST.out.2.2.2 0 (by decide)
          have hx1 : readX (readS sD 0) 1 = slotT G SZ N true 1 := by
            rw [← HST.out.2.2.2 1 (by decide)]
            have e1 := readX_slot (s := readS sD 0) (by rw [r1]; exact HST.out.1) (by rw [r2]; exact HST.out.2.1) (by rw [r3]; exact HST.out.2.2.1) 1 (by decide)
            have e2 := readX_slot (s := sD) HST.out.1 HST.out.2.1 HST.out.2.2.1 1 (by decide)
            rw [r4, r5] at e1
            exact e1.trans e2.symm
          rw [hx0] at hv0
          rw [hx1] at HR1
          obtain ⟨A0, n0, c0, ev0⟩ : ∃ A n c, v0 = .slice A n c := by obtain ⟨A, c, h⟩ := hv0.rd.slice; exact ⟨A, _, c, h⟩
          have HV0 := Lib.hid hv0
          have HOX := Lib.hid hoX
          have HDX := Lib.hid hdX
          clear hv0 hoX hdX hx0 hx1 r1 r2 r3 r4 r5 HR0
          subst ev0
          go_wp2_with fail
          refine HR1.out.mono ?_
          rintro e wY ⟨v1, er1, rfl, hv1, he1, hoY, hdY⟩
          obtain ⟨A1, n1, c1, ev1⟩ : ∃ A n c, v1 = .slice A n c := by obtain ⟨A, c, h⟩ := hv1.rd.slice; exact ⟨A, _, c, h⟩
          subst ev1
          have hbX : Below w.heap.size w wX := HCT.out.bel.trans (HOX.out.below HCT.out.bel.size (fun b hb => HCT.out.lo b hb))
          have hbY : Below w.heap.size w wY := hbX.trans (hoY.below hbX.size (fun b hb => HCT.out.lo b hb))
          have hrd0 : Rd .u8 wY (.slice A0 n0 c0) (slotT G SZ N true 0) := by
            rcases HV0.out with ⟨h1, h2⟩ | ⟨B, e, hB, hr⟩
            · rw [h1, h2]; exact .inl ⟨rfl, _, _, rfl⟩
            · exact AnsP.rd (lo := wD.heap.size) (.inr ⟨B, e, hB, hr.keep (hoY.block B hr.lt (fun hO => by have := HCT.out.rep.lt hO; omega))⟩)
          have hcho := choose_ok (unF K S (slotT G SZ N true 0)) (unF K S (slotT G SZ N true 1)) (.slice A0 n0 c0) (.slice A1 n1 c1) wY (fun w1 hb => unseal_ok K S _ _ w1 ((HT.out.belowS hbY).belowS hb) (hrd0.below hb) (HBY.out _ 0 N)) (fun w1 hb => unseal_ok K S _ _ w1 ((HT.out.belowS hbY).belowS hb) (hv1.rd.below hb) (HBY.out _ 1 N))
          have hownY : wY.ownsRow H4 27 10 (.slice Ad N cd) N (flatS (supI f0 ms) N) := own_keepT (own_keepT HOT.out (fun g hg => HOX.out.block g (HOT.out.lt g hg).2 (HDT.out g hg))) (fun g hg => hoY.block g (Nat.lt_of_lt_of_le (HOT.out.lt g hg).2 HOX.out.size) (HDT.out g hg))
          have hpl := HPU.out true
          obtain ⟨r, er⟩ : ∃ z, z = chF (unF K S (slotT G SZ N true 0)) (unF K S (slotT G SZ N true 1)) := ⟨_, rfl⟩
          rw [← er] at hcho hpl
          have HCHO := Lib.hid hcho
          have HBYW := Lib.hid hbY
          have HOY := Lib.hid hownY
          have HPL2 := Lib.hid hpl
          clear hv1 he0 he1 hoY hdY hbX hbY hrd0 hcho hownY hpl er HR1
          go_wp2_with fail
          refine HCHO.out.mono ?_
          rintro e wZ ⟨rfl, hbZ⟩
          have HBZ := Lib.hid (HBYW.out.trans ⟨hbZ.os, hbZ.tape, hbZ.output, hbZ.size, fun b hb => hbZ.block b (Nat.lt_of_lt_of_le hb HBYW.out.size)⟩)
          have HOZ := Lib.hid (own_keepT HOY.out (fun g hg => hbZ.block g (HOY.out.lt g hg).2))
          clear hbZ
          obtain ⟨b24, eb24⟩ : ∃ z, z = wZ.heap.size := ⟨_, rfl⟩
          have EB24 := Lib.hid (show wZ.heap.size = b24 from eb24.symm)
          have hwZ : w.heap.size ≤ wZ.heap.size := HBZ.out.size
          clear eb24
          by_cases hl0 : leftT N true = 0
          · obtain ⟨⟨rq, rb, rs, rl, rcu, rbm, ro1, ro2, rf, rm⟩, rat, rge⟩ := r
            have hge : rge ≠ 0 := by have h := HPL2.out; rw [if_pos hl0] at h; exact h
            have dge : (rge != 0) = true := by rw [bne_iff_ne]; exact hge
            have dn0 : (((N1 : Nat) : Int) == 0) = true := by rw [beq_iff_eq]; have := hl0; unfold leftT at this; rw [if_pos ⟨rfl, by omega⟩] at this; omega
            have HE := Lib.hid (HF.out (wZ.alloc (.cells #[.int .u64 rq, .int .i64 rb, .int .i64 rs, .int .i64 rl, .int .u64 rcu, .int .u64 rbm, .int .u64 ro1, .int .u64 ro2, .int .u32 rf, .int .i64 rm] 27)) (HBZ.out.alloc hwZ _))
            have hN9 : N1 = 0 := by have := hl0; unfold leftT at this; rw [if_pos ⟨rfl, by omega⟩] at this; omega
            have hN8 : ((N1 : Nat) : Int) = 0 := by omega
            clear hge hl0
            simp only [Sup.arr]
            go_wp2_with fail
            first | exact HE.out | (go_ret; exact HE.out)
          · have hr := HPL2.out
            rw [if_neg hl0] at hr
            subst hr
            obtain ⟨j, ej⟩ : ∃ z, z = leftT N true - 1 := ⟨_, rfl⟩
            have hjN : N1 = j + 1 ∧ j < N := by rw [ej]; unfold leftT at hl0 ⊢; rw [if_pos ⟨rfl, by omega⟩] at hl0 ⊢; omega
            rw [← ej]
            obtain ⟨hN1, hN2⟩ := hjN
            obtain ⟨M, eM⟩ : ∃ z, z = mkN bl (ms.getD j 0) := ⟨_, rfl⟩
            have ear : (supI f0 ms j).arr = #[.int .u64 (sq + j), .int .i64 (bl), .int .i64 (SZ : Nat), .int .i64 (sl), .int .u64 (cu), .int .u64 (bm), .int .u64 (o1), .int .u64 (o2), .int .u32 (fl), .int .i64 (M)] := by
              rw [EF.out]
              unfold supI Sup.arr
              simp only
              rw [← eM]
            simp only
            rw [ear]
            obtain ⟨wQ, ewQ⟩ : ∃ z, z = wZ.alloc (.cells #[.int .u64 (sq + j), .int .i64 (bl), .int .i64 (SZ : Nat), .int .i64 (sl), .int .u64 (cu), .int .u64 (bm), .int .u64 (o1), .int .u64 (o2), .int .u32 (fl), .int .i64 (M)] 27) := ⟨_, rfl⟩
            have hbQ : Blk wQ b24 27 #[.int .u64 (sq + j), .int .i64 (bl), .int .i64 (SZ : Nat), .int .i64 (sl), .int .u64 (cu), .int .u64 (bm), .int .u64 (o1), .int .u64 (o2), .int .u32 (fl), .int .i64 (M)] := by rw [ewQ, ← EB24.out]; exact Blk.new _ _ _
            have hoQ : wQ.ownsRow H4 27 10 (.slice Ad N cd) N (flatS (supI f0 ms) N) := by rw [ewQ]; exact HOZ.out.alloc _
            obtain ⟨gD, cD, hvD, _, hgD⟩ := hoQ.form (by omega)
            simp only [Value.slice.injEq] at hvD
            obtain ⟨hv1, _, hv2⟩ := hvD
            subst hv1
            subst hv2
            have hcD : ∀ k, k < 10 → wQ.cell? ⟨gD, j * 10 + k, none⟩ = #[.int .u64 (sq + j), .int .i64 (bl), .int .i64 (SZ : Nat), .int .i64 (sl), .int .u64 (cu), .int .u64 (bm), .int .u64 (o1), .int .u64 (o2), .int .u32 (fl), .int .i64 (M)][k]? := fun k hk => by
              rw [hoQ.cellAt (j * 10 + k) (by omega), flatS_get _ N j k hN2 hk, ear]
            have HE := Lib.hid (fun m => HF.out (wQ.drewN m) (by rw [ewQ]; exact below_drewN (HBZ.out.alloc hwZ _) m))
            have EWQ := Lib.hid ewQ
            have HBQ := Lib.hid hbQ
            have dn0 : (((N1 : Nat) : Int) == 0) = false := by rw [beq_eq_false_iff_ne]; omega
            have hN9 : ¬ N1 = 0 := by omega
            have hN8 : ¬ ((N1 : Nat) : Int) = 0 := by omega
            obtain ⟨P3, eP3⟩ : ∃ z, z = j % 2 := ⟨_, rfl⟩
            have ht3 : Int.tmod ((j : Nat) : Int) 2 = (P3 : Nat) := by rw [eP3, Int.tmod_eq_emod_of_nonneg (by omega)]; omega
            have hsub : IntKind.i64.wrap (((N1 : Nat) : Int) - 1) = (j : Nat) := by rw [IntWalk.i64_in _ (by omega)]; omega
            have hbQ2 : b24 < wQ.heap.size := HBQ.out.lt
            rw [← eP3]
            clear hl0 ej ear ewQ hbQ hoQ eP3 eM
            have z0 : wQ.cell? ⟨b24, 0, none⟩ = some (.int .u64 (sq + j)) := HBQ.out.cell 0
            have d0 : wQ.cell? ⟨gD, j * 10, none⟩ = some (.int .u64 (sq + j)) := by have h9 := hcD 0 (by omega); rw [Nat.add_zero] at h9; exact h9
            have z1 : wQ.cell? ⟨b24, 1, none⟩ = some (.int .i64 (bl)) := HBQ.out.cell 1
            have d1 : wQ.cell? ⟨gD, j * 10 + 1, none⟩ = some (.int .i64 (bl)) := hcD 1 (by omega)
            have z2 : wQ.cell? ⟨b24, 2, none⟩ = some (.int .i64 (SZ : Nat)) := HBQ.out.cell 2
            have d2 : wQ.cell? ⟨gD, j * 10 + 2, none⟩ = some (.int .i64 (SZ : Nat)) := hcD 2 (by omega)
            have z3 : wQ.cell? ⟨b24, 3, none⟩ = some (.int .i64 (sl)) := HBQ.out.cell 3
            have d3 : wQ.cell? ⟨gD, j * 10 + 3, none⟩ = some (.int .i64 (sl)) := hcD 3 (by omega)
            have z4 : wQ.cell? ⟨b24, 4, none⟩ = some (.int .u64 (cu)) := HBQ.out.cell 4
            have d4 : wQ.cell? ⟨gD, j * 10 + 4, none⟩ = some (.int .u64 (cu)) := hcD 4 (by omega)
            have z5 : wQ.cell? ⟨b24, 5, none⟩ = some (.int .u64 (bm)) := HBQ.out.cell 5
            have d5 : wQ.cell? ⟨gD, j * 10 + 5, none⟩ = some (.int .u64 (bm)) := hcD 5 (by omega)
            have z6 : wQ.cell? ⟨b24, 6, none⟩ = some (.int .u64 (o1)) := HBQ.out.cell 6
            have d6 : wQ.cell? ⟨gD, j * 10 + 6, none⟩ = some (.int .u64 (o1)) := hcD 6 (by omega)
            have z7 : wQ.cell? ⟨b24, 7, none⟩ = some (.int .u64 (o2)) := HBQ.out.cell 7
            have d7 : wQ.cell? ⟨gD, j * 10 + 7, none⟩ = some (.int .u64 (o2)) := hcD 7 (by omega)
            have z8 : wQ.cell? ⟨b24, 8, none⟩ = some (.int .u32 (fl)) := HBQ.out.cell 8
            have d8 : wQ.cell? ⟨gD, j * 10 + 8, none⟩ = some (.int .u32 (fl)) := hcD 8 (by omega)
            have z9 : wQ.cell? ⟨b24, 9, none⟩ = some (.int .i64 (M)) := HBQ.out.cell 9
            have d9 : wQ.cell? ⟨gD, j * 10 + 9, none⟩ = some (.int .i64 (M)) := hcD 9 (by omega)
            clear hcD
            go_upto_region 31 with (fail)
            rw [← EWQ.out, EB24.out]
            go_wp2_with fail
            go_quiet (fail)
            go_wp2_with fail
            first | exact HE.out _ | (go_ret; exact HE.out _)
end Go.Proofs.YtgehbfnfhjpjbaaDoor
