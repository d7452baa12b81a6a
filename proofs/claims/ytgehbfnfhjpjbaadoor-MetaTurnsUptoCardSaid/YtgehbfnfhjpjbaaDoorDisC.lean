/- The medium: look, lay. -/
import Derived.Test.YtgehbfnfhjpjbaaDoorDisB
import Derived.Outline
namespace Go.Proofs.YtgehbfnfhjpjbaaDoor
open Go.RowKit
open Go.ChangeMaps
set_option linter.unusedVariables false
set_option linter.unusedSimpArgs false
/-- The medium in the world: its block, its bytes, which blocks are spoilt. -/
structure MedR (w : World) (m B ms nb sz : Nat) (f : Nat → Int) (sp : Int → Option Value) : Prop where
  blk : Blk w m 58 #[.int .i64 sz, .slice (some ⟨B, 0, none⟩) (nb * sz) (nb * sz), .map (some ms)]
  row : RowA .u8 5 w B (nb * sz) f
  map : MapI w ms sp
theorem MedR.keep {w w1 : World} {m B ms nb sz : Nat} {f : Nat → Int} {sp : Int → Option Value} (h : MedR w m B ms nb sz f sp) (h1 : w1.heap[m]? = w.heap[m]?) (h2 : w1.heap[B]? = w.heap[B]?) (h3 : w1.heap[ms]? = w.heap[ms]?) : MedR w1 m B ms nb sz f sp :=
  ⟨h1.trans h.blk, h.row.keep h2, h.map.keep h3⟩
theorem MedR.below {w w1 : World} {m B ms nb sz : Nat} {f : Nat → Int} {sp : Int → Option Value} (h : MedR w m B ms nb sz f sp) (hb : Below w.heap.size w w1) : MedR w1 m B ms nb sz f sp :=
  h.keep (hb.block _ h.blk.lt) (hb.block _ h.row.lt) (hb.block _ h.map.lt)
theorem MedR.drewN {w : World} {m B ms nb sz : Nat} {f : Nat → Int} {sp : Int → Option Value} (h : MedR w m B ms nb sz f sp) (n : Nat) : MedR (w.drewN n) m B ms nb sz f sp := ⟨h.blk, h.row, h.map⟩
theorem i64_nat (k : Nat) (h : k ≤ 9000000000) : I64 (k : Int) := by
  unfold I64
  exact WalkArith.wf_i64 (by omega)
def LookQ (v : Value) (e0 : Int) (w : World) (e : Ending) (w' : World) : Prop := e = .returned (.tuple #[v, .int .i64 e0]) ∧ Below w.heap.size w w'
set_option maxHeartbeats 1000000 in
set_option maxRecDepth 100000 in
theorem mlook_ok (w : World) (m B ms nb sz k : Nat) (f : Nat → Int) (sp : Int → Option Value) (h : MedR w m B ms nb sz f sp) (hk : k < nb) (hnb : nb ≤ 8192) (hs0 : 0 < sz) (hsz : sz ≤ 1024) (hsp : sp k = none) :
    Calls Tryd.prog 53 #[.pointer (some ⟨m, 0, none⟩), .int .i64 k] w (LookQ (.slice (some ⟨B, k * sz, none⟩) sz (nb * sz - k * sz)) 0 w) := by
  have hlk : ∀ W : World, W.heap[ms]? = w.heap[ms]? → (Instr.lookup 56 (.map (some ms)) (.int .i64 k) true).run Tryd.prog W = .ok (.tuple #[.agg #[], .bool false]) W := fun W hW => by
    have := (h.map.keep hW).look (k := 3) (e := 75) (t := 56) Tryd.underlying3 Tryd.underlying56 (z := .agg #[]) (by kernel_rfl) true (i64_nat k (by omega))
    rw [hsp] at this
    exact this
  have hlk0 := hlk w rfl
  have c0 := h.blk.cell 0
  have c1 := h.blk.cell 1
  have c2 := h.blk.cell 2
  simp only [List.getElem?_toArray, List.getElem?_cons_zero, List.getElem?_cons_succ] at c0 c1 c2
  have hm := h.blk.lt
  have hfit : k * sz + sz ≤ nb * sz := by rw [← Nat.succ_mul]; exact Nat.mul_le_mul_right sz hk
  have hmax : nb * sz ≤ 8388608 := Nat.mul_le_mul hnb hsz
  obtain ⟨p, ep⟩ : ∃ p, p = k * sz := ⟨_, rfl⟩
  obtain ⟨N, eN⟩ : ∃ N, N = nb * sz := ⟨_, rfl⟩
  rw [← ep, ← eN] at hfit
  rw [← eN] at hmax c1
  rw [← ep, ← eN]
  have m0 : (k : Int) * (sz : Int) = (p : Int) := by rw [ep]; simp
  have m1 : IntKind.i64.wrap ((k : Int) * (sz : Int)) = (p : Int) := by rw [m0]; exact IntWalk.i64_in _ (by omega)
  have m2 : IntKind.i64.wrap ((k : Int) + 1) = (k : Int) + 1 := IntWalk.i64_in _ (by omega)
  have m3 : IntKind.i64.wrap (((k : Int) + 1) * (sz : Int)) = (p : Int) + (sz : Int) := by rw [Int.add_mul, m0, Int.one_mul]; exact IntWalk.i64_in _ (by omega)
  have m4 : ((p : Int) + (sz : Int)).toNat = p + sz := by omega
  have m5 : (0 : Int) ≤ (p : Int) + (sz : Int) := by omega
  have m6 : (p : Int) ≤ (p : Int) + (sz : Int) := by omega
  have m7 : (p : Int) + (sz : Int) ≤ (N : Int) := by omega
  have m8 : ¬ (N = p) := by omega
  clear hlk m0 ep eN
  go_enter Tryd.func53, Tryd.ntmps53
  go_wp2_with fail
  go_quiet (fail)
  go_wp2_with fail
  go_ret2
  exact ⟨rfl, below_drewN ((Below.refl _ _).alloc (Nat.le_refl _) _) _⟩
set_option maxHeartbeats 1000000 in
set_option maxRecDepth 100000 in
theorem mlook_bad (w : World) (m B ms nb sz k : Nat) (f : Nat → Int) (sp : Int → Option Value) (h : MedR w m B ms nb sz f sp) (hk : k ≤ 8192) (hsp : sp k = some (.agg #[])) :
    Calls Tryd.prog 53 #[.pointer (some ⟨m, 0, none⟩), .int .i64 k] w (LookQ (.slice none 0 0) 21 w) := by
  have hlk : (Instr.lookup 56 (.map (some ms)) (.int .i64 k) true).run Tryd.prog w = .ok (.tuple #[.agg #[], .bool true]) w := by
    have := h.map.look (k := 3) (e := 75) (t := 56) Tryd.underlying3 Tryd.underlying56 (z := .agg #[]) (by kernel_rfl) true (i64_nat k (by omega))
    rw [hsp] at this
    exact this
  have c2 := h.blk.cell 2
  simp only [List.getElem?_toArray, List.getElem?_cons_zero, List.getElem?_cons_succ] at c2
  have hm := h.blk.lt
  go_enter Tryd.func53, Tryd.ntmps53
  go_wp2_with fail
  go_ret2
  exact ⟨rfl, (Below.refl _ _).alloc (Nat.le_refl _) _⟩
theorem row_splice {w : World} {B N p : Nat} {f : Nat → Int} (h : RowA .u8 5 w B N f) (xs : List Int) (hp : p + xs.length ≤ N) :
    ∃ cur : List Value, Blk w B 5 cur.toArray ∧ cur.length = N ∧ RowA .u8 5 (w.setRow B (splice cur p (xs.map (Value.int .u8))).toArray) B N (layF f p xs) := by
  obtain ⟨cs, hb, hn, hf⟩ := h
  refine ⟨cs.toList, hb, by simpa using hn, _, hb.setRow _, ?_, fun i hi => ?_⟩
  · rw [List.size_toArray, length_splice _ _ _ (by simp; omega)]; simpa using hn
  · have hl : cs.toList.length = N := by simpa using hn
    have hfi : cs.toList[i]? = some (.int .u8 (f i)) := by simpa using hf i hi
    unfold layF splice
    rw [List.getElem?_toArray, List.getElem?_append, List.length_take]
    by_cases h1 : i < p
    · rw [if_pos (by omega), if_neg (by omega), List.getElem?_take, if_pos h1, hfi]
    · rw [if_neg (by omega), List.getElem?_append, List.length_map]
      by_cases h2 : i < p + xs.length
      · rw [if_pos (by omega), if_pos (by omega), List.getElem?_map, show i - min p cs.toList.length = i - p by omega, List.getD_eq_getElem?_getD, List.getElem?_eq_getElem (by omega)]; rfl
      · rw [if_neg (by omega), if_neg (by omega), List.getElem?_drop, show p + xs.length + (i - min p cs.toList.length - xs.length) = i by omega, hfi]
def TwoO (b1 b2 : Nat) (k : Nat) : Prop := k = b1 ∨ k = b2
set_option maxHeartbeats 1000000 in
set_option maxRecDepth 100000 in
theorem mlay_ok (w : World) (m B ms nb sz k : Nat) (f : Nat → Int) (sp : Int → Option Value) (v : Value) (xs : List Int) (h : MedR w m B ms nb sz f sp) (hk : k < nb) (hnb : nb ≤ 8192) (hs0 : 0 < sz) (hsz : sz ≤ 1024) (hr : Rd .u8 w v xs) (hl : xs.length = sz) :
    Calls Tryd.prog 52 #[.pointer (some ⟨m, 0, none⟩), .int .i64 k, v] w fun e w' => e = .returned (.tuple #[]) ∧ OnlyP (TwoO ms B) w w' ∧ MedR w' m B ms nb sz (layF f (k * sz) xs) (updI sp k none) := by
  have c0 := h.blk.cell 0
  have c1 := h.blk.cell 1
  have c2 := h.blk.cell 2
  simp only [List.getElem?_toArray, List.getElem?_cons_zero, List.getElem?_cons_succ] at c0 c1 c2
  have hm := h.blk.lt
  have hmm : m ≠ ms := h.blk.ne_map h.map
  have hBm : B ≠ ms := h.row.ne_map h.map
  have hBM : B ≠ m := h.row.ne_blk h.blk (by decide)
  have hfit : k * sz + sz ≤ nb * sz := by rw [← Nat.succ_mul]; exact Nat.mul_le_mul_right sz hk
  have hmax : nb * sz ≤ 8388608 := Nat.mul_le_mul hnb hsz
  obtain ⟨p, ep⟩ : ∃ p, p = k * sz := ⟨_, rfl⟩
  obtain ⟨N, eN⟩ : ∃ N, N = nb * sz := ⟨_, rfl⟩
  have hrow := h.row
  rw [← ep, ← eN] at hfit
  rw [← eN] at hmax c1 hrow
  have m0 : (k : Int) * (sz : Int) = (p : Int) := by rw [ep]; simp
  have m1 : IntKind.i64.wrap ((k : Int) * (sz : Int)) = (p : Int) := by rw [m0]; exact IntWalk.i64_in _ (by omega)
  have m8 : ¬ (N = p) := by omega
  have m9 : p ≤ N := by omega
  obtain ⟨b, off, c, rfl, g1, g2, g3, g4⟩ : ∃ b off c, v = .slice (some ⟨b, off, none⟩) sz c ∧ 0 < xs.length ∧ xs.length ≤ c ∧ b < w.heap.size ∧ ∀ i, i < xs.length → w.cell? ⟨b, off + i, none⟩ = some (.int .u8 (xs.getD i 0)) := by
    rcases hr with ⟨h0, _⟩ | ⟨b, off, c, e, r⟩
    · rw [h0] at hl; simp at hl; omega
    · exact ⟨b, off, c, by rw [← hl]; exact e, r⟩
  have hbm : b ≠ ms := by
    rintro rfl
    have hc := g4 0 g1
    obtain ⟨es, cl, hb, _⟩ := h.map
    simp [World.cell?, hb] at hc
  have hrow' := hrow
  have H := Lib.hid h
  have G4 := Lib.hid g4
  have EP := Lib.hid ep
  have EN := Lib.hid eN
  have HL := Lib.hid hl
  have HROW := Lib.hid hrow'
  clear h g4 ep eN m0 hl hrow hrow' hr
  go_enter Tryd.func52, Tryd.ntmps52
  go_wp2_with (refine wpList_del_I _ rfl (.tmp 9) (.tmp 10) rfl ms rfl k rfl (fun W => MapI W ms (updI sp k none)) (fun ty => H.out.map.del Tryd.underlying3 Tryd.underlying56 (i64_nat k (by omega)) ty) ?_; intro w1 hm1 ho1)
  have d0 := (show w1.cell? ⟨m, 0, none⟩ = _ from (cell_of_heap (ho1.far hmm) 0).trans c0)
  have d1 := (show w1.cell? ⟨m, 1, none⟩ = _ from (cell_of_heap (ho1.far hmm) 1).trans c1)
  obtain ⟨cur, hcb, hcl, hcr⟩ := row_splice (w := w1.drew) (p := p) ((HROW.out.keep (ho1.far hBm)).drewN 1) xs (by rw [HL.out]; exact hfit)
  have hsrc : ∀ j v, (xs.map (Value.int .u8))[j]? = some v → w1.drew.cell? ((⟨b, off, none⟩ : Addr).add j) = some v := fun j v hj => by
    have hj' : j < xs.length := by have := (List.getElem?_eq_some_iff.1 hj).1; simpa using this
    rw [Go.WideShapes.add_plain]
    rw [List.getElem?_map, List.getElem?_eq_getElem hj'] at hj
    have := G4.out j hj'
    rw [List.getD_eq_getElem?_getD, List.getElem?_eq_getElem hj'] at this
    exact ((cell_of_heap (ho1.far hbm) (off + j)).trans this).trans hj
  have HSRC := Lib.hid hsrc
  have HCB := Lib.hid hcb
  have HCL := Lib.hid hcl
  have HCR := Lib.hid hcr
  have HM1 := Lib.hid hm1
  have HO1 := Lib.hid ho1
  clear hsrc hcb hcl hcr c0 c1 c2 hm1 ho1
  go_wp2_with fail
  go_still_tail 12, (by kernel_rfl)
  refine wpList_copy_exact _ rfl (.tmp 21) (.tmp 22) 29 29 rfl 5 Tryd.underlying29 hd_size5 B p ⟨b, off, none⟩ _ _ _ _ rfl rfl cur 5 HCB.out (xs.map (Value.int .u8)) ?c1 HSRC.out ?c3 ?c4 ?_
  case c1 => rw [List.length_map, HL.out]; exact (Nat.min_eq_left (by omega)).symm
  case c3 => rw [List.length_map, HL.out, HCL.out]; exact hfit
  case c4 => intro x hx; simp only [List.mem_map] at hx; obtain ⟨y, _, rfl⟩ := hx; rfl
  obtain ⟨w2, ew2⟩ : ∃ w2, w2 = w1.drew.setRow B (splice cur p (xs.map (Value.int .u8))).toArray := ⟨_, rfl⟩
  have hfin : OnlyP (TwoO ms B) w w2 ∧ MedR w2 m B ms nb sz (layF f (k * sz) xs) (updI sp k none) := by
    have h1 := HCR.out
    rw [← ew2] at h1
    refine ⟨by rw [ew2]; exact ((((OnlyP.refl _ w).one HO1.out (.inl (.inl rfl))).drew).setRow (.inl (.inr rfl)) _), ?_, ?_, ?_⟩
    · refine Eq.trans ?_ H.out.blk
      rw [ew2]
      exact (heap_setRow _ B m _ (fun e => hBM e.symm)).trans (HO1.out.far hmm)
    · rw [← EP.out, ← EN.out]; exact h1
    · refine MapI.keep (w := w1) HM1.out ?_
      rw [ew2]
      exact heap_setRow _ B ms _ (fun e => hBm e.symm)
  have HF := Lib.hid hfin
  show wpList _ _ _ _ _ (w1.drew.setRow B (splice cur p (xs.map (Value.int .u8))).toArray)
  rw [← ew2]
  clear hfin ew2 d0 d1
  go_wp2_with fail
  go_end0
  exact ⟨rfl, HF.out⟩
end Go.Proofs.YtgehbfnfhjpjbaaDoor
