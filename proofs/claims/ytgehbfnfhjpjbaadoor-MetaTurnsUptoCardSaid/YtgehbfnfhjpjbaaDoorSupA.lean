/- Numbers laid down as bytes: cursor.lay, cursor.number. -/
import Derived.Test.YtgehbfnfhjpjbaaDoorShaI
import Derived.Outline
namespace Go.Proofs.YtgehbfnfhjpjbaaDoor
open Go.RowKit
set_option linter.unusedVariables false
set_option linter.unusedSimpArgs false
/-- What was there is as it was, but for the blocks bs. -/
structure Only (bs : List Nat) (w w' : World) : Prop where
  os : w'.os = w.os
  tape : w'.tape = w.tape
  output : w'.output = w.output
  size : w.heap.size ≤ w'.heap.size
  block : ∀ k, k < w.heap.size → k ∉ bs → w'.heap[k]? = w.heap[k]?
theorem Only.refl (bs : List Nat) (w : World) : Only bs w w := ⟨rfl, rfl, rfl, Nat.le_refl _, fun _ _ _ => rfl⟩
theorem Only.trans {bs : List Nat} {w w1 w2 : World} (h : Only bs w w1) (h2 : Only bs w1 w2) : Only bs w w2 :=
  ⟨h2.os.trans h.os, h2.tape.trans h.tape, h2.output.trans h.output, Nat.le_trans h.size h2.size, fun k hk hb => (h2.block k (Nat.lt_of_lt_of_le hk h.size) hb).trans (h.block k hk hb)⟩
theorem Only.mono {bs cs : List Nat} {w w1 : World} (h : Only bs w w1) (hs : ∀ x ∈ bs, x ∈ cs) : Only cs w w1 :=
  ⟨h.os, h.tape, h.output, h.size, fun k hk hb => h.block k hk (fun hc => hb (hs k hc))⟩
theorem Only.set {bs : List Nat} {w w1 : World} (h : Only bs w w1) {p : Addr} (hp : p.block ∈ bs) (v : Value) : Only bs w (w1.setCell p v) :=
  ⟨h.os, h.tape, h.output, by rw [size_setCell]; exact h.size, fun k hk hb => (Below.heap_setCell w1 p v k (fun e => hb (e ▸ hp))).trans (h.block k hk hb)⟩
theorem Only.drewN {bs : List Nat} {w w1 : World} (h : Only bs w w1) (n : Nat) : Only bs w (w1.drewN n) := ⟨h.os, h.tape, h.output, h.size, h.block⟩
theorem Only.drew {bs : List Nat} {w w1 : World} (h : Only bs w w1) : Only bs w w1.drew := ⟨h.os, h.tape, h.output, h.size, h.block⟩
theorem Only.alloc {bs : List Nat} {w w1 : World} (h : Only bs w w1) (o : Obj) : Only bs w (w1.alloc o) :=
  ⟨h.os, h.tape, h.output, Nat.le_trans h.size (by simp), fun k hk hb => (Below.heap_alloc w1 o k (Nat.lt_of_lt_of_le hk h.size)).trans (h.block k hk hb)⟩
theorem Only.ofBelow {bs : List Nat} {w w1 : World} (h : Below w.heap.size w w1) : Only bs w w1 := ⟨h.os, h.tape, h.output, h.size, fun k hk _ => h.block k hk⟩
theorem Only.below {bs : List Nat} {w w1 : World} (h : Only bs w w1) {B : Nat} (hB : B ≤ w.heap.size) (hb : ∀ x ∈ bs, B ≤ x) : Below B w w1 :=
  ⟨h.os, h.tape, h.output, h.size, fun k hk => h.block k (Nat.lt_of_lt_of_le hk hB) (fun hc => by have := hb k hc; omega)⟩
theorem Only.blk {bs : List Nat} {w w1 : World} (h : Only bs w w1) {g : Nat} {t : TypeId} {cs : Array Value} (hg : Blk w g t cs) (hn : g ∉ bs) : Blk w1 g t cs := (h.block g hg.lt hn).trans hg
theorem Only.rowA {bs : List Nat} {w w1 : World} (h : Only bs w w1) {k : IntKind} {g n : Nat} {t : TypeId} {f : Nat → Int} (hg : RowA k t w g n f) (hn : g ∉ bs) : RowA k t w1 g n f := hg.keep (h.block g hg.lt hn)
theorem Only.tab {bs : List Nat} {w w1 : World} (h : Only bs w w1) {K : Nat → Int} {S : St} (hT : Tab K S w) (hb : ∀ x ∈ bs, 1 < x) : Tab K S w1 :=
  ⟨hT.1.keep (h.block _ hT.1.lt (fun hc => Nat.lt_irrefl _ (hb _ hc))), let ⟨t, h2⟩ := hT.2; ⟨t, h.blk h2 (fun hc => by have := hb _ hc; omega)⟩⟩
theorem Only.rd {bs : List Nat} {w w1 : World} (h : Only bs w w1) {k : IntKind} {v : Value} {xs : List Int} (hr : Rd k w v xs) (hn : ∀ b off c, v = .slice (some ⟨b, off, none⟩) xs.length c → b ∉ bs) : Rd k w1 v xs := by
  rcases hr with hr | ⟨b, off, c, rfl, h1, h2, h3, h4⟩
  · exact .inl hr
  · refine .inr ⟨b, off, c, rfl, h1, h2, Nat.lt_of_lt_of_le h3 h.size, fun i hi => ?_⟩
    rw [← h4 i hi]; exact cell_of_heap (h.block b h3 (hn _ _ _ rfl)) _
/-- A number as n bytes, the highest first. -/
def be (n : Nat) (x : Int) : List Int := (List.range n).map fun i => x / 2 ^ (8 * (n - 1 - i)) % 256
theorem be_length (n : Nat) (x : Int) : (be n x).length = n := by simp [be]
theorem be_at (n : Nat) (x : Int) (i : Nat) (h : i < n) : (be n x).getD i 0 = x / 2 ^ (8 * (n - 1 - i)) % 256 := by simp [be, h]
/-- f with the numbers xs laid down from place p on. -/
def layF (f : Nat → Int) (p : Nat) (xs : List Int) (j : Nat) : Int := if p ≤ j ∧ j < p + xs.length then xs.getD (j - p) 0 else f j
/-- A cursor: its block g, its bytes' block B (L of them), its place. -/
def Cur (w : World) (g B L c : Nat) (p : Nat) (f : Nat → Int) : Prop := Blk w g 64 #[.slice (some ⟨B, 0, none⟩) L c, .int .i64 p] ∧ RowA .u8 5 w B L f ∧ g ≠ B ∧ L ≤ c
/-- The loop of lay. -/
def LyA (g B L c p n t : Nat) (x : Int) (f : Nat → Int) (w wr : World) : Prop := Only [g, B] w wr ∧ wr.heap.size = w.heap.size ∧ Cur wr g B L c (p + t) (layF f p ((be n x).take t))
theorem layF_step (f : Nat → Int) (p n t : Nat) (x : Int) (h : t < n) (j : Nat) : layF f p ((be n x).take (t + 1)) j = if j = p + t then x / 2 ^ (8 * (n - 1 - t)) % 256 else layF f p ((be n x).take t) j := by
  have e1 : ((be n x).take (t + 1)).length = t + 1 := by rw [List.length_take, be_length]; omega
  have e2 : ((be n x).take t).length = t := by rw [List.length_take, be_length]; omega
  unfold layF
  rw [e1, e2]
  by_cases e : j = p + t
  · subst e
    rw [if_pos (by omega), if_pos rfl, ← be_at n x t h, List.getD_eq_getElem?_getD, List.getD_eq_getElem?_getD, List.getElem?_take, if_pos (by omega), show p + t - p = t by omega]
  · rw [if_neg e]
    by_cases e3 : p ≤ j ∧ j < p + t
    · rw [if_pos e3, if_pos (by omega), List.getD_eq_getElem?_getD, List.getD_eq_getElem?_getD, List.getElem?_take, List.getElem?_take, if_pos (by omega), if_pos (by omega)]
    · rw [if_neg e3, if_neg (by omega)]
theorem LyA.step {g B L c p n t q : Nat} {x : Int} {f : Nat → Int} {w wr : World} (h : LyA g B L c p n t x f w wr) (ht : t + (q + 1) = n) :
    LyA g B L c p n (t + 1) x f w (((wr.setCell ⟨B, p + t, none⟩ (.int .u8 (x / 2 ^ (8 * q) % 256))).setCell ⟨g, 1, none⟩ (.int .i64 ((p : Int) + (t : Int) + 1))).drew) := by
  obtain ⟨h1, h2, h3, h4, h5, h6⟩ := h
  have eq : q = n - 1 - t := by omega
  refine ⟨((h1.set (by simp) _).set (by simp) _).drew, by simpa [World.setCell] using h2, ?_, ?_, h5, h6⟩
  · have := Blk.drewN (((h3.far (p := ⟨B, p + t, none⟩) h5 (.int .u8 (x / 2 ^ (8 * q) % 256)))).set 1 (.int .i64 ((p : Int) + (t : Int) + 1))) 1
    rw [show ((p + (t + 1) : Nat) : Int) = (p : Int) + (t : Int) + 1 by omega]
    exact this
  · refine RowA.drewN (((h4.put (p + t) (x / 2 ^ (8 * q) % 256)).far (p := ⟨g, 1, none⟩) (Ne.symm h5) _).congr (fun j hj => ?_)) 1
    rw [layF_step f p n t x (by omega) j, eq]
set_option maxHeartbeats 1000000 in
set_option maxRecDepth 100000 in
theorem lay_ok (g B L c p n : Nat) (x : Int) (f : Nat → Int) (w : World) (h : Cur w g B L c p f) (hn1 : 1 ≤ n) (hn2 : n ≤ 8) (hp : p + n ≤ L) (hL : L ≤ 65536) (hx : 0 ≤ x) :
    Calls Tryd.prog 15 #[.pointer (some ⟨g, 0, none⟩), .int .u64 x, .int .i64 n] w fun e w' => e = .returned (.tuple #[]) ∧ LyA g B L c p n n x f w w' := by
  have H := Lib.hid h
  clear h
  go_enter Tryd.func15, Tryd.ntmps15
  go_wp2_with fail
  go_loopw [6] (fun i wr => ∃ t r : Nat, t + r = n ∧ ((r = 0 ∧ i = .int .i64 (-1)) ∨ (∃ q : Nat, r = q + 1 ∧ i = .int .i64 q)) ∧ LyA g B L c p n t x f w wr) (fun i _ => (intOf i + 1).toNat)
  case atStart =>
    refine ⟨0, n, by omega, .inr ⟨n - 1, by omega, ?_⟩, Only.refl _ _, rfl, H.out.1, H.out.2.1.congr (fun j hj => by simp [layF]; omega), H.out.2.2.1, H.out.2.2.2⟩
    congr 1; omega
  case round =>
    obtain ⟨t, r, htr, hi, hP⟩ := hrel
    have HP := Lib.hid hP
    have c0 := hP.2.2.1.cell 0
    have c1 := hP.2.2.1.cell 1
    have f1 := hP.2.2.1.free 1
    have d0 := hP.2.2.2.1.cell (p + t)
    have g0 := hP.2.2.2.1.free (p + t)
    have hLc := hP.2.2.2.2.2
    simp only [List.getElem?_toArray, List.getElem?_cons_zero, List.getElem?_cons_succ] at c0 c1
    clear hP
    rcases hi with ⟨rfl, rfl⟩ | ⟨q, rfl, rfl⟩
    · clear d0
      go_wp2_with fail
      go_end0
      obtain rfl : t = n := by omega
      exact ⟨rfl, HP.out⟩
    · have d0' := d0 (by omega)
      have hgB := HP.out.2.2.2.2.1
      clear d0
      go_wp2_with fail
      go_region
      go_wp2_with fail
      refine ⟨⟨t + 1, q, by omega, ?_, HP.out.step (by omega)⟩, by simp [intOf] <;> omega⟩
      rcases q with _ | q
      · exact .inl ⟨rfl, by simp⟩
      · exact .inr ⟨q, rfl, by congr 1; omega⟩
/-- One byte taken behind a number. -/
def numS (a b : Int) : Int := bits .or .u64 (IntKind.u64.wrap (a * 256)) (IntKind.u64.wrap b)
/-- The number that bytes tell. -/
def numF (l : List Int) : Int := l.foldl numS 0
/-- A reader: its block g (of type tg), its bytes xs, its place. -/
def RdC (tg : TypeId) (w : World) (g B off c : Nat) (p : Nat) (xs : List Int) : Prop :=
  Blk w g tg #[.slice (some ⟨B, off, none⟩) xs.length c, .int .i64 p] ∧ g ≠ B ∧ xs.length ≤ c ∧ B < w.heap.size ∧ ∀ i, i < xs.length → w.cell? ⟨B, off + i, none⟩ = some (.int .u8 (xs.getD i 0))
/-- The loop of number. -/
def NmA (tg : TypeId) (g B off c p t : Nat) (xs : List Int) (w wr : World) : Prop := Only [g] w wr ∧ wr.heap.size = w.heap.size ∧ RdC tg wr g B off c (p + t) xs
theorem NmA.step {tg : TypeId} {g B off c p t : Nat} {xs : List Int} {w wr : World} (h : NmA tg g B off c p t xs w wr) (m : Nat) :
    NmA tg g B off c p (t + 1) xs w ((wr.drewN m).setCell ⟨g, 1, none⟩ (.int .i64 ((p : Int) + (t : Int) + 1))) := by
  obtain ⟨h1, h2, h3, h4, h5, h6, h7⟩ := h
  refine ⟨(h1.drewN m).set (by simp) _, by simpa [World.setCell] using h2, ?_, h4, h5, by simpa [World.setCell] using h6, fun i hi => ?_⟩
  · have := (Blk.drewN h3 m).set 1 (.int .i64 ((p : Int) + (t : Int) + 1))
    rw [show ((p + (t + 1) : Nat) : Int) = (p : Int) + (t : Int) + 1 by omega]
    exact this
  · rw [World.cell?_setCell_other _ _ _ _ (by intro e; injection e with e; exact h4 e)]
    exact h7 i hi
theorem take_next (xs : List Int) (p t : Nat) (h : p + t < xs.length) : ((xs.drop p).take (t + 1)) = ((xs.drop p).take t) ++ [xs.getD (p + t) 0] := by
  rw [List.take_add_one, List.getElem?_drop, List.getD_eq_getElem?_getD, List.getElem?_eq_getElem h]; rfl
set_option maxHeartbeats 1000000 in
set_option maxRecDepth 100000 in
theorem number_ok (tg : TypeId) (g B off c p n : Nat) (xs : List Int) (w : World) (h : RdC tg w g B off c p xs) (hn2 : n ≤ 8) (hp : p + n ≤ xs.length) (hL : xs.length ≤ 65536) :
    Calls Tryd.prog 33 #[.pointer (some ⟨g, 0, none⟩), .int .i64 n] w fun e w' => e = .returned (.int .u64 (numF ((xs.drop p).take n))) ∧ NmA tg g B off c p n xs w w' := by
  have H := Lib.hid h
  have HPx := Lib.hid hp
  obtain ⟨L, eL⟩ : ∃ L, L = xs.length := ⟨_, rfl⟩
  have EL := Lib.hid eL
  rw [← eL] at hp hL
  clear h eL
  go_enter Tryd.func33, Tryd.ntmps33
  go_wp2_with fail
  go_loopw [5, 7] (fun v i wr => ∃ t : Nat, t ≤ n ∧ i = .int .i64 t ∧ v = .int .u64 (numF ((xs.drop p).take t)) ∧ NmA tg g B off c p t xs w wr) (fun _ i _ => n - (intOf i).toNat)
  case atStart => exact ⟨0, by omega, rfl, by simp [numF], Only.refl _ _, rfl, H.out⟩
  case round =>
    obtain ⟨t, ht, rfl, rfl, hP⟩ := hrel
    have HP := Lib.hid hP
    have c0 := hP.2.2.1.cell 0
    have c1 := hP.2.2.1.cell 1
    have f1 := hP.2.2.1.free 1
    simp only [List.getElem?_toArray, List.getElem?_cons_zero, List.getElem?_cons_succ] at c0 c1
    rw [← EL.out] at c0
    by_cases hlt : t < n
    · have d0 := hP.2.2.2.2.2.2 (p + t) (by have := EL.out; omega)
      have hgB := hP.2.2.2.1
      have hLc : L ≤ c := by have := hP.2.2.2.2.1; have := EL.out; omega
      have hst : numF ((xs.drop p).take (t + 1)) = numS (numF ((xs.drop p).take t)) (xs.getD (p + t) 0) := by
        rw [take_next xs p t (by have := EL.out; omega)]; simp [numF]
      obtain ⟨y, ey⟩ : ∃ y, y = xs.getD (p + t) 0 := ⟨_, rfl⟩
      rw [← ey] at d0 hst
      obtain ⟨v, ev⟩ : ∃ v, v = numF ((xs.drop p).take t) := ⟨_, rfl⟩
      rw [← ev] at hst ⊢
      have Hst := Lib.hid hst
      clear hP hst ev ey
      go_wp2_with fail
      go_quiet (fail)
      go_wp2_with fail
      exact ⟨⟨t + 1, by omega, by go_num, by rw [Hst.out]; rfl, HP.out.step nq⟩, by simp [intOf] <;> omega⟩
    · obtain rfl : t = n := by omega
      clear hP
      go_wp2_with fail
      go_ret
      exact ⟨rfl, HP.out⟩
end Go.Proofs.YtgehbfnfhjpjbaaDoor
