/- What Read tells of each block: seen. -/
import Derived.Test.YtigfcoibbmndpaaLwF
import Derived.Outline
import Derived.Deep.RegionHeld3
import Derived.Deep.AppendLies
namespace Go.Proofs.Ytigfcoibbmndpaa
open Go.RowKit
open Go.ChangeMaps
set_option linter.unusedVariables false
set_option linter.unusedSimpArgs false
theorem own_only2 {O : Nat → Prop} {w w1 : World} {B : Nat} {e : TypeId} {v : Value} {n : Nat} {xs : List Value} (h : w.ownsRow B e 1 v n xs) (ho : OnlyP O w w1) (hne : ∀ g, B ≤ g → g < w.heap.size → ¬ O g) : w1.ownsRow B e 1 v n xs := by
  refine ⟨h.1, ?_⟩
  rcases h.2 with h | ⟨g, cap, cur, rfl, a1, a2, a3⟩
  · exact .inl h
  · have hl := (Array.getElem?_eq_some_iff.1 a2).1
    exact .inr ⟨g, cap, cur, rfl, a1, (ho.block g hl (hne g a1 hl)).trans a2, a3⟩
theorem own_base {w : World} {B B1 : Nat} {e : TypeId} {v : Value} {n : Nat} {xs : List Value} (h : w.ownsRow B e 1 v n xs) (hB : B1 ≤ B) : w.ownsRow B1 e 1 v n xs := by
  refine ⟨h.1, ?_⟩
  rcases h.2 with h | ⟨g, cap, cur, rfl, a1, a2⟩
  · exact .inl h
  · exact .inr ⟨g, cap, cur, rfl, Nat.le_trans hB a1, a2⟩
theorem AnsP.only {O : Nat → Prop} {lo : Nat} {w w1 : World} {v : Value} {xs : List Int} (h : AnsP lo w v xs) (ho : OnlyP O w w1) (hO : ∀ b, lo ≤ b → b < w.heap.size → ¬ O b) : AnsP lo w1 v xs := by
  rcases h with h | ⟨B, e, hB, hr⟩
  · exact .inl h
  · exact .inr ⟨B, e, hB, hr.keep (ho.block B hr.lt (hO B hB hr.lt))⟩
theorem AnsP.grownT {lo C n : Nat} {w w1 : World} {v u : Value} {e : TypeId} {xs : List Int} {ys : List Value} (h : AnsP lo w v xs) (ho : w.ownsRow C e 1 u n ys) (hg : w.grownBy w1 u.ownBlock) (hne : 5 ≠ e) : AnsP lo w1 v xs := by
  rcases h with h | ⟨B, e, hB, hr⟩
  · exact .inl h
  · exact .inr ⟨B, e, hB, hr.grown ho hg hne⟩
/-- What was seen of n blocks. -/
structure SeenV (lo : Nat) (w : World) (bv ev : Value) (n : Nat) (xs : Nat → List Int) (es : Nat → Int) : Prop where
  b : ∃ Vs, w.ownsRow lo 24 1 bv n Vs ∧ ∀ j, j < n → ∃ v, Vs[j]? = some v ∧ AnsP lo w v (xs j)
  e : w.ownsRow lo 3 1 ev n ((List.range n).map fun j => Value.int .i64 (es j))
theorem SeenV.only {O : Nat → Prop} {lo : Nat} {w w1 : World} {bv ev : Value} {n : Nat} {xs : Nat → List Int} {es : Nat → Int} (h : SeenV lo w bv ev n xs es) (ho : OnlyP O w w1) (hO : ∀ b, lo ≤ b → b < w.heap.size → ¬ O b) : SeenV lo w1 bv ev n xs es := by
  obtain ⟨⟨Vs, h1, h2⟩, h3⟩ := h
  exact ⟨⟨Vs, own_only2 h1 ho hO, fun j hj => let ⟨v, g1, g2⟩ := h2 j hj; ⟨v, g1, g2.only ho hO⟩⟩, own_only2 h3 ho hO⟩
def withC0 (s : DSt) (c : Int) : DSt := { s with c0 := c }
theorem readE_c0 (s : DSt) (c j : Int) : readE (withC0 s c) j = readE s j := rfl
theorem readX_c0 (s : DSt) (c j : Int) : readX (withC0 s c) j = readX s j := rfl
theorem readS_c0 (s : DSt) (c j : Int) : ∃ c', readS (withC0 s c) j = withC0 s c' := by
  unfold readS
  split
  · exact ⟨_, rfl⟩
  · exact ⟨c, rfl⟩
def SeenQ (O : Nat → Prop) (w : World) (d : Nat) (s : DSt) (e : Ending) (w' : World) : Prop :=
  ∃ bv ev c, e = .returned (.agg #[bv, ev]) ∧ SeenV w.heap.size w' bv ev s.nb (fun j => readX s j) (fun j => readE s j) ∧ OnlyP O w w' ∧ DRep O w' d (withC0 s c)
/-- The loop under way. -/
structure SeenI (O : Nat → Prop) (w : World) (d : Nat) (s : DSt) (i k : Nat) (bv ev : Value) (wr : World) : Prop where
  sb : ∃ Vs, wr.ownsRow (w.heap.size + 2) 24 1 bv i Vs ∧ ∀ j, j < i → ∃ v, Vs[j]? = some v ∧ AnsP (w.heap.size + 2) wr v (readX s j)
  se : wr.ownsRow (w.heap.size + 2) 3 1 ev k ((List.range k).map fun j : Nat => Value.int .i64 (readE s (j : Int)))
  bs : Blk wr (w.heap.size + 1) 35 #[bv, ev]
  br : Blk wr w.heap.size 35 #[.slice none 0 0, .slice none 0 0]
  ho : OnlyP O w wr
  hd : ∃ c, DRep O wr d (withC0 s c)
theorem SeenI.only {O P : Nat → Prop} {w wr w1 : World} {d : Nat} {s : DSt} {i k : Nat} {bv ev : Value} {c : Int} (h : SeenI O w d s i k bv ev wr) (hP : ∀ b, P b → O b) (hl : ∀ b, O b → b < w.heap.size) (ho : OnlyP P wr w1) (hd : DRep O w1 d (withC0 s c)) : SeenI O w d s i k bv ev w1 := by
  obtain ⟨⟨Vs, h1, h2⟩, h3, h4, h5, h6, _⟩ := h
  have far : ∀ b, w.heap.size ≤ b → b < wr.heap.size → ¬ P b := fun b hb _ hp => by have := hl b (hP b hp); omega
  have far2 : ∀ b, w.heap.size + 2 ≤ b → b < wr.heap.size → ¬ P b := fun b hb => far b (by omega)
  exact ⟨⟨Vs, own_only2 h1 ho far2, fun j hj => let ⟨v, g1, g2⟩ := h2 j hj; ⟨v, g1, g2.only ho far2⟩⟩, own_only2 h3 ho far2, (ho.block _ h4.lt (far _ (by omega) h4.lt)).trans h4, (ho.block _ h5.lt (far _ (Nat.le_refl _) h5.lt)).trans h5, h6.then (ho.mono hP), c, hd⟩
theorem Blk.grownT {w w1 : World} {b C n : Nat} {t e : TypeId} {cs : Array Value} {u : Value} {ys : List Value} (h : Blk w b t cs) (ho : w.ownsRow C e 1 u n ys) (hg : w.grownBy w1 u.ownBlock) (hne : t ≠ e) : Blk w1 b t cs := (hg.block b h.lt (h.ne_own ho hne)).trans h
theorem own_grownT {w w1 : World} {B C n m : Nat} {t e : TypeId} {u v : Value} {xs ys : List Value} (h : w.ownsRow B t 1 v m xs) (ho : w.ownsRow C e 1 u n ys) (hg : w.grownBy w1 u.ownBlock) (hne : t ≠ e) : w1.ownsRow B t 1 v m xs :=
  own_grown h hg fun g hv => by obtain ⟨cur, hc⟩ := own_block h g hv; exact hc.ne_own ho hne
theorem SeenI.appB {O : Nat → Prop} {w w3 w4 : World} {d : Nat} {s : DSt} {i k : Nat} {bv ev x bv' : Value} {Vs : List Value} (h : SeenI O w d s i k bv ev w3) (hl : ∀ b, O b → b < w.heap.size) (hx : AnsP (w.heap.size + 2) w3 x (readX s i))
    (ho3 : w3.ownsRow (w.heap.size + 2) 24 1 bv i Vs) (hV : ∀ j, j < i → ∃ v, Vs[j]? = some v ∧ AnsP (w.heap.size + 2) w3 v (readX s j)) (ho4 : w4.ownsRow (w.heap.size + 2) 24 1 bv' (i + 1) (Vs ++ [x])) (hg : w3.grownBy w4 bv.ownBlock) :
    SeenI O w d s (i + 1) k bv' ev (w4.setCell ⟨w.heap.size + 1, 0, none⟩ bv') := by
  obtain ⟨_, h3, h4, h5, h6, c, hd⟩ := h
  have h34 := own_grownT h3 ho3 hg (by decide)
  have h44 := h4.grownT ho3 hg (by decide)
  have h54 := h5.grownT ho3 hg (by decide)
  have h64 : OnlyP O w w4 := h6.grown hg (fun g hg => .inr (by have := (ho3.lt g hg).1; omega))
  have hd4 : DRep O w4 d (withC0 s c) := hd.keep (fun b hb => hg.block b (hd.lt hb) (fun e => by have := (ho3.lt b e.symm).1; have := hl b hb; omega)) hg.size
  have hV4 : ∀ j, j < i + 1 → ∃ v, (Vs ++ [x])[j]? = some v ∧ AnsP (w.heap.size + 2) w4 v (readX s j) := by
    intro j hj
    have hlen : Vs.length = i := by have := ho3.1; omega
    by_cases hji : j < i
    · obtain ⟨v, g1, g2⟩ := hV j hji
      exact ⟨v, by rw [List.getElem?_append_left (by omega)]; exact g1, g2.grownT ho3 hg (by decide)⟩
    · obtain rfl : i = j := by omega
      exact ⟨x, by rw [List.getElem?_append_right (by omega), hlen]; simp, hx.grownT ho3 hg (by decide)⟩
  have hset : OnlyP (fun b => b = w.heap.size + 1) w4 (w4.setCell ⟨w.heap.size + 1, 0, none⟩ bv') := OnlyP.set (p := ⟨w.heap.size + 1, 0, none⟩) (OnlyP.refl (fun b => b = w.heap.size + 1) w4) (.inl rfl) _
  have far2 : ∀ b, w.heap.size + 2 ≤ b → b < w4.heap.size → ¬ (b = w.heap.size + 1) := fun b hb _ e => by omega
  refine ⟨⟨_, own_only2 ho4 hset far2, fun j hj => let ⟨v, g1, g2⟩ := hV4 j hj; ⟨v, g1, g2.only hset far2⟩⟩, own_only2 h34 hset far2, h44.set 0 bv', (hset.block _ h54.lt (by omega)).trans h54, ?_, c, ?_⟩
  · exact h64.set (.inr (show w.heap.size ≤ w.heap.size + 1 by omega)) _
  · exact hd4.keep (fun b hb => hset.block b (hd4.lt hb) (fun e => by have := hl b hb; omega)) hset.size
theorem SeenI.appE {O : Nat → Prop} {w w3 w4 : World} {d : Nat} {s : DSt} {i k : Nat} {bv ev ev' : Value} (h : SeenI O w d s i k bv ev w3) (hl : ∀ b, O b → b < w.heap.size)
    (ho4 : w4.ownsRow (w.heap.size + 2) 3 1 ev' (k + 1) (((List.range k).map fun j : Nat => Value.int .i64 (readE s (j : Int))) ++ [.int .i64 (readE s k)])) (hg : w3.grownBy w4 ev.ownBlock) :
    SeenI O w d s i (k + 1) bv ev' (w4.setCell ⟨w.heap.size + 1, 1, none⟩ ev') := by
  obtain ⟨⟨Vs, h1, h2⟩, h3, h4, h5, h6, c, hd⟩ := h
  have h14 := own_grownT h1 h3 hg (by decide)
  have h44 := h4.grownT h3 hg (by decide)
  have h54 := h5.grownT h3 hg (by decide)
  have h64 : OnlyP O w w4 := h6.grown hg (fun g hg => .inr (by have := (h3.lt g hg).1; omega))
  have hd4 : DRep O w4 d (withC0 s c) := hd.keep (fun b hb => hg.block b (hd.lt hb) (fun e => by have := (h3.lt b e.symm).1; have := hl b hb; omega)) hg.size
  have hset : OnlyP (fun b => b = w.heap.size + 1) w4 (w4.setCell ⟨w.heap.size + 1, 1, none⟩ ev') := OnlyP.set (p := ⟨w.heap.size + 1, 1, none⟩) (OnlyP.refl (fun b => b = w.heap.size + 1) w4) (.inl rfl) _
  have far2 : ∀ b, w.heap.size + 2 ≤ b → b < w4.heap.size → ¬ (b = w.heap.size + 1) := fun b hb _ e => by omega
  refine ⟨⟨Vs, own_only2 h14 hset far2, fun j hj => let ⟨v, g1, g2⟩ := h2 j hj; ⟨v, g1, (g2.grownT h3 hg (by decide)).only hset far2⟩⟩, ?_, h44.set 1 ev', (hset.block _ h54.lt (by omega)).trans h54, ?_, c, ?_⟩
  · rw [List.range_succ, List.map_append]
    exact own_only2 ho4 hset far2
  · exact h64.set (.inr (show w.heap.size ≤ w.heap.size + 1 by omega)) _
  · exact hd4.keep (fun b hb => hset.block b (hd4.lt hb) (fun e => by have := hl b hb; omega)) hset.size
theorem own_slice {w : World} {B : Nat} {e : TypeId} {v : Value} {n : Nat} {xs : List Value} (h : w.ownsRow B e 1 v n xs) : ∃ A m c, v = .slice A m c := by
  rcases h.2 with ⟨h, _⟩ | ⟨g, cap, cur, h, _⟩
  · exact ⟨_, _, _, h⟩
  · exact ⟨_, _, _, h⟩
theorem seen_results (tmps : Array Value) (w : World) (g : Nat) (bv ev : Value) (hp : tmps.getD 4 undef = .pointer (some ⟨g, 0, none⟩)) (H2 : Blk w g 35 #[bv, ev]) : (results Try.f14 tmps).run Try.prog w = .ok (.agg #[bv, ev]) w := by
  have hp' : tmps[4]?.getD undef = .pointer (some ⟨g, 0, none⟩) := by simpa using hp
  have d0 := H2.cell 0
  have d1 := H2.cell 1
  simp only [List.getElem?_toArray, List.getElem?_cons_zero, List.getElem?_cons_succ] at d0 d1
  simp [results, Try.results14, hp', asAddr, go_sem, d0, d1]
theorem info_sl : (Try.prog.info? 24).map (fun i => (i.zero, i.size, i.bytes)) = some (some (.slice none 0 0), 1, 24) := by kernel_rfl
set_option maxHeartbeats 4000000 in
set_option maxRecDepth 100000 in
theorem seen_ok (O : Nat → Prop) (w : World) (d : Nat) (s : DSt) (h : DRep O w d s) (hcap : ∀ k, (s.ca k).length ≤ 100000000000000) :
    Calls Try.prog 14 #[.pointer (some ⟨d, 0, none⟩), .int .i64 s.nb] w (SeenQ O w d s) := by
  obtain ⟨Q, eQ⟩ : ∃ Q, Q = SeenQ O w d s := ⟨_, rfl⟩
  rw [← eQ]
  have EQ := Lib.hid eQ
  have hnb2 := h.wf.nb2
  obtain ⟨nb, enb⟩ : ∃ nb, nb = s.nb := ⟨_, rfl⟩
  have ENB := Lib.hid enb
  have HD := Lib.hid h
  have HCAP := Lib.hid hcap
  rw [← enb] at hnb2 ⊢
  clear eQ h hcap enb
  go_enter Try.func14, Try.ntmps14
  go_wp2_with fail
  obtain ⟨wI, eI⟩ : ∃ wI, wI = (w.alloc (.cells #[.slice none 0 0, .slice none 0 0] 35)).alloc (.cells #[.slice none 0 0, .slice none 0 0] 35) := ⟨_, rfl⟩
  have hbI : Below w.heap.size w wI := by rw [eI]; exact ((Below.refl _ _).alloc (Nat.le_refl _) _).alloc (by simp) _
  have hI : SeenI O w d s 0 0 (.slice none 0 0) (.slice none 0 0) wI := by
    refine ⟨⟨[], World.ownsRow_nil _ _ _ _, fun j hj => absurd hj (by omega)⟩, World.ownsRow_nil _ _ _ _, ?_, ?_, OnlyP.ofBelow hbI, s.c0, HD.out.below hbI⟩
    · rw [eI]; exact Blk.newAt _ _ _ _ (by simp)
    · rw [eI]; exact (Blk.newAt w w.heap.size _ _ rfl).alloc _
  rw [← eI]
  have HL : Hid (∀ b, O b → b < w.heap.size) := Lib.hid (fun b hb => HD.out.lt hb)
  have HI := Lib.hid hI
  have hszI : wI.heap.size = w.heap.size + 2 := by rw [eI]; simp
  clear hI hbI eI HD
  obtain ⟨i0, hi0, hz0, hz1, hz2⟩ := info_parts info_sl
  go_loopw [6, 7, 8, 9, 10] (fun b _ _ _ _ wr => ∃ i : Nat, i ≤ nb ∧ b = .int .i64 i ∧ ∃ bv ev, SeenI O w d s i i bv ev wr ∧ w.heap.size + 2 ≤ wr.heap.size) (fun b _ _ _ _ _ => nb - (intOf b).toNat)
  case atStart => exact ⟨0, Nat.zero_le _, rfl, _, _, HI.out, by omega⟩
  case round =>
    obtain ⟨i, hi, rfl, bv, ev, hsi, hszr⟩ := hrel
    have HSI := Lib.hid hsi
    clear hsi HI
    by_cases hlt : i < nb
    · obtain ⟨c, hdr⟩ := HSI.out.hd
      have hrd := read_ok O wr d (withC0 s c) (i : Int) hdr (HCAP.out _)
      rw [readE_c0, readX_c0] at hrd
      obtain ⟨c2, ec2⟩ := readS_c0 s c i
      rw [ec2] at hrd
      have HRD := Lib.hid hrd
      clear hdr hrd ec2
      go_wp2_with fail
      refine HRD.out.mono ?_
      rintro e w2 ⟨x, er, rfl, hx, her, hon2, hdr2⟩
      have hsi2 := HSI.out.only (fun b h => h) HL.out hon2 hdr2
      have hx2 := hx.lo (lo' := w.heap.size + 2) hszr
      have htr := trouble_ok _ w2 er _ _ her
      have hsz2 : w.heap.size + 2 ≤ w2.heap.size := Nat.le_trans hszr hon2.size
      have HSI2 := Lib.hid hsi2
      have HX2 := Lib.hid hx2
      have HTR := Lib.hid htr
      clear hx her hon2 hdr2 hsi2 hx2 htr HRD HSI
      go_wp2_with fail
      refine HTR.out.mono ?_
      rintro e w3 ⟨rfl, nn, ew3⟩
      have hsi3 : SeenI O w d s i i bv ev w3 := by
        obtain ⟨c4, hd4⟩ := HSI2.out.hd
        rw [ew3]
        exact HSI2.out.only (fun b h => h) HL.out ((OnlyP.refl _ w2).drewN nn) (hd4.drewN nn)
      have hx3 : AnsP (w.heap.size + 2) w3 x (readX s i) := by rw [ew3]; exact HX2.out
      have hsz3 : w.heap.size + 2 ≤ w3.heap.size := by rw [ew3]; exact hsz2
      obtain ⟨Vs, hoV, hV⟩ := hsi3.sb
      have a0 : w3.cell? ⟨w.heap.size + 1, 0, none⟩ = some bv := hsi3.bs.cell 0
      have f0 := hsi3.bs.free 0
      have HSI3 := Lib.hid hsi3
      have HX3 := Lib.hid hx3
      have HOV := Lib.hid hoV
      have HV := Lib.hid hV
      clear hsi3 hx3 hoV hV HSI2 HX2 HTR ew3
      obtain ⟨A, cp, rfl⟩ := HX3.out.rd.slice
      go_wp2_with (with_reducible refine app1 rfl (.tmp 28) (.tmp 30) 32 rfl (w.heap.size + 2) 24 (.slice none 0 0) 24 Try.underlying32 info_sl rfl bv i Vs rfl HOV.out (.slice A _ cp) 1 rfl rfl ?c1 ?c2 ?c3 ?_)
      case c1 => unfold maxLen; omega
      case c2 => omega
      case c3 => exact hsz3
      intro bv4 w4 ho4 hg4
      obtain ⟨A4, n4, cp4, rfl⟩ := own_slice ho4
      have hsi4 := HSI3.out.appB HL.out HX3.out HOV.out HV.out ho4 hg4
      have hbs4 := HSI3.out.bs.grownT HOV.out hg4 (by decide)
      have b0 : w4.cell? ⟨w.heap.size + 1, 0, none⟩ = some bv := hbs4.cell 0
      have b1 : w4.cell? ⟨w.heap.size + 1, 1, none⟩ = some ev := hbs4.cell 1
      have g0 := hbs4.free 0
      have g1 := hbs4.free 1
      have hse4 := hsi4.se
      have hsz4 : w.heap.size + 2 ≤ w4.heap.size := Nat.le_trans hsz3 hg4.size
      have b2 : (w4.setCell ⟨w.heap.size + 1, 0, none⟩ (.slice A4 n4 cp4)).cell? ⟨w.heap.size + 1, 1, none⟩ = some ev := hsi4.bs.cell 1
      have HSI4 := Lib.hid hsi4
      have HOE := Lib.hid hse4
      clear ho4 hg4 hsi4 hbs4 hse4 HSI3 HX3 HOV HV a0 f0
      go_wp2_with (with_reducible refine app1 rfl (.tmp 34) (.tmp 36) 33 rfl (w.heap.size + 2) 3 (.int .i64 0) 8 Try.underlying33 info_int rfl ev i _ rfl HOE.out (.int .i64 (readE s (i : Int))) 1 ?d0 rfl ?d1 ?d2 ?d3 ?_)
      case d0 => rw [size_setCell]; rfl
      case d1 => unfold maxLen; omega
      case d2 => omega
      case d3 => rw [size_setCell]; exact hsz4
      intro ev5 w5 ho5 hg5
      obtain ⟨A5, n5, cp5, rfl⟩ := own_slice ho5
      have hsi5 := HSI4.out.appE HL.out ho5 hg5
      have hbs5 := HSI4.out.bs.grownT HOE.out hg5 (by decide)
      have b3 : w5.cell? ⟨w.heap.size + 1, 1, none⟩ = some ev := hbs5.cell 1
      have g3 := hbs5.free 1
      have hsz5 : w.heap.size + 2 ≤ w5.heap.size := by have := hg5.size; rw [size_setCell] at this; omega
      have HSI5 := Lib.hid hsi5
      clear ho5 hg5 hsi5 hbs5 HSI4 HOE b0 b1 b2 g0 g1
      go_wp2_with fail
      go_roundw
      case rel => first | exact ⟨i + 1, by omega, by go_num, _, _, HSI5.out, by rw [size_setCell]; exact hsz5⟩ | ((repeat apply Exists.intro); exact ⟨⟨i + 1, by omega, by go_num, _, _, HSI5.out, by rw [size_setCell]; exact hsz5⟩, rfl⟩)
      case measure => simp [intOf] <;> omega
    · obtain rfl : nb = i := by omega
      obtain ⟨Vs, hoV, hV⟩ := HSI.out.sb
      obtain ⟨A1, n1, cp1, rfl⟩ := own_slice hoV
      obtain ⟨A2, n2, cp2, rfl⟩ := own_slice HSI.out.se
      have hsi := HSI.out
      have a0 : wr.cell? ⟨w.heap.size + 1, 0, none⟩ = some (.slice A1 n1 cp1) := hsi.bs.cell 0
      have a1 : wr.cell? ⟨w.heap.size + 1, 1, none⟩ = some (.slice A2 n2 cp2) := hsi.bs.cell 1
      have z0 : wr.cell? ⟨w.heap.size, 0, none⟩ = some (.slice none 0 0) := hsi.br.cell 0
      have z1 : wr.cell? ⟨w.heap.size, 1, none⟩ = some (.slice none 0 0) := hsi.br.cell 1
      have f0 := hsi.br.free 0
      have f1 := hsi.br.free 1
      have hQ : Q (.returned (.agg #[.slice A1 n1 cp1, .slice A2 n2 cp2])) ((wr.setCell ⟨w.heap.size, 0, none⟩ (.slice A1 n1 cp1)).setCell ⟨w.heap.size, 1, none⟩ (.slice A2 n2 cp2)) := by
        rw [EQ.out]
        obtain ⟨c, hd⟩ := hsi.hd
        have hset : OnlyP (fun b => b = w.heap.size) wr ((wr.setCell ⟨w.heap.size, 0, none⟩ (.slice A1 n1 cp1)).setCell ⟨w.heap.size, 1, none⟩ (.slice A2 n2 cp2)) := OnlyP.set (p := ⟨w.heap.size, 1, none⟩) (OnlyP.set (p := ⟨w.heap.size, 0, none⟩) (OnlyP.refl (fun b => b = w.heap.size) wr) (.inl rfl) _) (.inl rfl) _
        have far2 : ∀ b, w.heap.size + 2 ≤ b → b < wr.heap.size → ¬ (b = w.heap.size) := fun b hb _ e => by omega
        refine ⟨_, _, c, rfl, ⟨⟨Vs, ?_, fun j hj => ?_⟩, ?_⟩, ?_, ?_⟩
        · rw [← ENB.out]; exact own_base (own_only2 hoV hset far2) (by omega)
        · obtain ⟨v, g1, g2⟩ := hV j (by rw [ENB.out]; exact hj)
          exact ⟨v, g1, (g2.only hset far2).lo (by omega)⟩
        · rw [← ENB.out]; exact own_base (own_only2 hsi.se hset far2) (by omega)
        · exact OnlyP.set (p := ⟨w.heap.size, 1, none⟩) (OnlyP.set (p := ⟨w.heap.size, 0, none⟩) hsi.ho (.inr (Nat.le_refl _)) _) (.inr (Nat.le_refl _)) _
        · exact hd.keep (fun b hb => hset.block b (hd.lt hb) (fun e => by have := HL.out b hb; omega)) hset.size
      have hr2 : Blk ((wr.setCell ⟨w.heap.size, 0, none⟩ (.slice A1 n1 cp1)).setCell ⟨w.heap.size, 1, none⟩ (.slice A2 n2 cp2)) w.heap.size 35 #[.slice A1 n1 cp1, .slice A2 n2 cp2] := (hsi.br.set 0 _).set 1 _
      have HQ := Lib.hid hQ
      clear hsi hQ hV
      go_wp2_with fail
      exact bodyPost_ret (seen_results _ _ w.heap.size _ _ rfl hr2) rfl HQ.out
end Go.Proofs.Ytigfcoibbmndpaa
