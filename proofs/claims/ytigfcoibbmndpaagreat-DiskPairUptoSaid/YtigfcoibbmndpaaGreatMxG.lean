/- Joined of the texts LxL LxM LxN LxO. -/
import Derived.Test.YtigfcoibbmndpaaGreatMxF
import Derived.Outline
import Derived.Deep.RegionLaw
import Derived.Deep.CutRange
/- Making the two disks: what New and Load answer, alike. -/
namespace Go.Proofs.YtigfcoibbmndpaaGreat
open Go.RowKit
open Go.ChangeMaps
set_option linter.unusedVariables false
set_option linter.unusedSimpArgs false
def DMk (ok : Bool) (s : DSt) (b0 b1 : Nat) (vp : Value) (w : World) : Prop := (ok = false ∧ vp = .pointer none) ∨ (ok = true ∧ ∃ d O, vp = .pointer (some ⟨d, 0, none⟩) ∧ DRep O w d s ∧ ∀ b, O b → b0 ≤ b ∧ b < b1)
def RMk (ok : Bool) (s : DSt) (b0 : Nat) (vp : Value) (w : World) : Prop := (ok = false ∧ vp = .pointer none) ∨ (ok = true ∧ ∃ r P, vp = .pointer (some ⟨r, 0, none⟩) ∧ RRep P w r s (-1) 0 ∧ ∀ b, P b → b0 ≤ b)
def MkD (ok : Bool) (x : Int) (s : DSt) (w : World) (e : Ending) (w' : World) : Prop := ∃ vp, e = .returned (.tuple #[vp, .int .i64 x]) ∧ DMk ok s w.heap.size w'.heap.size vp w' ∧ Below w.heap.size w w'
def MkR (ok : Bool) (x : Int) (s : DSt) (w : World) (e : Ending) (w' : World) : Prop := ∃ vp, e = .returned (.tuple #[vp, .int .i64 x]) ∧ RMk ok s w.heap.size vp w' ∧ Below w.heap.size w w'
theorem DMk.keep {ok : Bool} {s : DSt} {b0 b1 : Nat} {vp : Value} {w w1 : World} (h : DMk ok s b0 b1 vp w) (hk : ∀ b, b0 ≤ b → b < w.heap.size → w1.heap[b]? = w.heap[b]?) (hs : w.heap.size ≤ w1.heap.size) : DMk ok s b0 b1 vp w1 := by
  rcases h with h | ⟨h, d, O, e, hd, hO⟩
  · exact .inl h
  · exact .inr ⟨h, d, O, e, hd.keep (fun b hb => hk b (hO b hb).1 (hd.lt hb)) hs, hO⟩
theorem RMk.keep {ok : Bool} {s : DSt} {b0 : Nat} {vp : Value} {w w1 : World} (h : RMk ok s b0 vp w) (hk : ∀ b, b0 ≤ b → b < w.heap.size → w1.heap[b]? = w.heap[b]?) (hs : w.heap.size ≤ w1.heap.size) : RMk ok s b0 vp w1 := by
  rcases h with h | ⟨h, d, O, e, hd, hO⟩
  · exact .inl h
  · exact .inr ⟨h, d, O, e, hd.keep (fun b hb => hk b (hO b hb) (hd.lt hb)) hs, hO⟩
theorem use_nat {nb sz : Int} (h : Use nb sz) : ∃ a b : Nat, nb = a ∧ sz = b ∧ 1 ≤ a ∧ a ≤ 8192 ∧ Size b := by
  obtain ⟨h1, h2, h3⟩ := h
  exact ⟨nb.toNat, sz.toNat, by omega, by omega, by omega, by omega, by unfold Size; omega⟩
theorem news (nb sz : Int) : ∃ ok x s, (∀ w, Calls Tryz.prog 21 #[.int .i64 nb, .int .i64 sz] w (MkD ok x s w)) ∧ ∀ w, Calls Tryz.prog 22 #[.int .i64 nb, .int .i64 sz] w (MkR ok x s w) := by
  by_cases h : Use nb sz
  · obtain ⟨a, b, rfl, rfl, h1, h2, h3⟩ := use_nat h
    refine ⟨true, 0, newS a b, fun w => (new_ok w a b h1 h2 h3).mono ?_, fun w => (rnew_ok w a b h1 h2 h3).mono ?_⟩
    · rintro e w' ⟨d, O, rfl, hd, hO, hb⟩
      exact ⟨_, rfl, .inr ⟨rfl, d, O, rfl, hd, fun b hb' => ⟨hO b hb', hd.lt hb'⟩⟩, hb⟩
    · rintro e w' ⟨d, O, rfl, hd, hO, hb⟩
      exact ⟨_, rfl, .inr ⟨rfl, d, O, rfl, hd, hO⟩, hb⟩
  · refine ⟨false, 1, newS 0 0, fun w => (new_bad w nb sz h).mono ?_, fun w => (rnew_bad w nb sz h).mono ?_⟩
    · rintro e w' ⟨rfl, hb⟩
      exact ⟨_, rfl, .inl ⟨rfl, rfl⟩, hb⟩
    · rintro e w' ⟨rfl, hb⟩
      exact ⟨_, rfl, .inl ⟨rfl, rfl⟩, hb⟩
theorem loads (nb sz : Int) (xs : List Int) : ∃ ok x s, (∀ w v, Rd .u8 w v xs → Calls Tryz.prog 17 #[.int .i64 nb, .int .i64 sz, v] w (MkD ok x s w)) ∧ ∀ w v, Rd .u8 w v xs → Calls Tryz.prog 19 #[.int .i64 nb, .int .i64 sz, v] w (MkR ok x s w) := by
  by_cases h : Use nb sz
  · obtain ⟨a, b, rfl, rfl, h1, h2, h3⟩ := use_nat h
    by_cases hl : xs.length = a * b
    · refine ⟨true, 0, loadS a b xs, fun w v hr => (load_ok w a b v xs h1 h2 h3 hr hl).mono ?_, fun w v hr => (rload_ok w a b v xs h1 h2 h3 hr hl).mono ?_⟩
      · rintro e w' ⟨d, O, rfl, hd, hO, hb⟩
        exact ⟨_, rfl, .inr ⟨rfl, d, O, rfl, hd, fun b hb' => ⟨hO b hb', hd.lt hb'⟩⟩, hb⟩
      · rintro e w' ⟨d, O, rfl, hd, hO, hb⟩
        exact ⟨_, rfl, .inr ⟨rfl, d, O, rfl, hd, hO⟩, hb⟩
    · refine ⟨false, 3, newS 0 0, fun w v hr => ?_, fun w v hr => ?_⟩
      · obtain ⟨A, c, rfl⟩ := hr.slice
        refine (load_size w a b A _ c h1 h2 h3 hl).mono ?_
        rintro e w' ⟨rfl, hb⟩
        exact ⟨_, rfl, .inl ⟨rfl, rfl⟩, hb⟩
      · obtain ⟨A, c, rfl⟩ := hr.slice
        refine (rload_size w a b A _ c h1 h2 h3 hl).mono ?_
        rintro e w' ⟨rfl, hb⟩
        exact ⟨_, rfl, .inl ⟨rfl, rfl⟩, hb⟩
  · refine ⟨false, 1, newS 0 0, fun w v hr => ?_, fun w v hr => ?_⟩
    · obtain ⟨A, c, rfl⟩ := hr.slice
      refine (load_bad w nb sz A _ c h).mono ?_
      rintro e w' ⟨rfl, hb⟩
      exact ⟨_, rfl, .inl ⟨rfl, rfl⟩, hb⟩
    · obtain ⟨A, c, rfl⟩ := hr.slice
      refine (rload_bad w nb sz A _ c h).mono ?_
      rintro e w' ⟨rfl, hb⟩
      exact ⟨_, rfl, .inl ⟨rfl, rfl⟩, hb⟩
structure MadeV where
  load : Bool
  nb : Int
  sz : Int
  iv : Value
  img : List Int
def MadeV.agg (m : MadeV) : Value := .agg #[.bool m.load, .int .i64 m.nb, .int .i64 m.sz, m.iv]
def bk0 : BkV := ⟨.slice none 0 0, .slice none 0 0, .slice none 0 0, .slice none 0 0, 0, false, .slice none 0 0, .slice none 0 0, .slice none 0 0, .slice none 0 0⟩
/-- A pair, its two pointers whatever they are. -/
def zArr (vd vr : Value) : Array Value := #[vd, vr, .bool false, .slice none 0 0, .slice none 0 0, .slice none 0 0, .slice none 0 0, .int .i64 0, .bool false, .slice none 0 0, .slice none 0 0, .slice none 0 0, .slice none 0 0]
/-- What made answers: a pair of disks that are alike, or (of what cannot be) none. -/
def MadeQ (w : World) (e : Ending) (w' : World) : Prop :=
  ∃ q, e = .returned (.tuple #[.pointer (some ⟨q, 0, none⟩), .bool true]) ∧ Below w.heap.size w w' ∧ w.heap.size ≤ q ∧
    ((∃ X, PairR X w' q 0 ∧ ∀ b, X b → w.heap.size ≤ b) ∨ Blk w' q 37 (zArr (.pointer none) (.pointer none)))
theorem made_fin {w w' : World} {q b0 b1 b2 : Nat} {ok : Bool} {s : DSt} {vd vr : Value} (hq : Blk w' q 37 (zArr vd vr)) (hb : Below w.heap.size w w') (h0 : w.heap.size ≤ q) (h1 : q < b0)
    (hd : DMk ok s b0 b1 vd w') (hr : RMk ok s b2 vr w') (hsep : b1 ≤ b2) (hsep2 : b0 ≤ b2) :
    MadeQ w (.returned (.tuple #[.pointer (some ⟨q, 0, none⟩), .bool true])) w' := by
  refine ⟨q, rfl, hb, h0, ?_⟩
  rcases hr with ⟨rfl, rfl⟩ | ⟨rfl, r, P, rfl, hrr, hP⟩
  · rcases hd with ⟨_, rfl⟩ | ⟨h, _⟩
    · exact .inr hq
    · cases h
  · rcases hd with ⟨h, _⟩ | ⟨_, d, O, rfl, hdd, hO⟩
    · cases h
    refine .inl ⟨fun b => b = q ∨ O b ∨ P b, ⟨d, s, O, r, P, -1, bk0, 0, ⟨hq, rfl, hdd, hrr, ⟨[], World.ownsRow_nil _ _ _ _⟩, Nat.le_refl _, fun b h => .inr (.inl h), fun b h => .inr (.inr h), .inl rfl, fun g hg => by simp [bk0, Value.ownBlock] at hg, ?_, fun b h1 h2 => ?_, ⟨fun h => ?_, fun h => ?_⟩, fun g hg => by simp [bk0, Value.ownBlock] at hg⟩⟩, ?_⟩
    · rintro b (rfl | h | h)
      · exact hq.lt
      · exact hdd.lt h
      · exact hrr.lt h
    · have := (hO b h1).2; have := hP b h2; omega
    · have := (hO q h).1; omega
    · have := hP q h; omega
    · rintro b (rfl | h | h)
      · exact h0
      · have := (hO b h).1; omega
      · have := hP b h; omega
end Go.Proofs.YtigfcoibbmndpaaGreat
/- The law's made: the walk. -/
namespace Go.Proofs.YtigfcoibbmndpaaGreat
open Go.RowKit
open Go.ChangeMaps
set_option linter.unusedVariables false
set_option linter.unusedSimpArgs false
theorem DMk.ptr {ok : Bool} {s : DSt} {b0 b1 : Nat} {vp : Value} {w : World} (h : DMk ok s b0 b1 vp w) : ∃ p, vp = .pointer p := by
  rcases h with ⟨_, h⟩ | ⟨_, d, O, h, _⟩
  · exact ⟨_, h⟩
  · exact ⟨_, h⟩
theorem RMk.ptr {ok : Bool} {s : DSt} {b0 : Nat} {vp : Value} {w : World} (h : RMk ok s b0 vp w) : ∃ p, vp = .pointer p := by
  rcases h with ⟨_, h⟩ | ⟨_, d, O, h, _⟩
  · exact ⟨_, h⟩
  · exact ⟨_, h⟩
/-- The program's disk stands (or none), the document's does not yet. -/
def HalfQ (w wb : World) (q B1 : Nat) (ok : Bool) (s : DSt) (bx : Array Value) (wx : World) : Prop := ∃ vd, Blk wx q 37 (zArr vd (.pointer none)) ∧ DMk ok s wb.heap.size wx.heap.size vd wx ∧ Below w.heap.size w wx ∧ Blk wx B1 24 bx ∧ wb.heap.size ≤ wx.heap.size
theorem half_ok {w wb w2 : World} {q B1 : Nat} {ok : Bool} {s : DSt} {bx : Array Value} {vd : Value} (hqb : Blk wb q 37 (zArr (.pointer none) (.pointer none))) (hb : Below wb.heap.size wb w2) (hd : DMk ok s wb.heap.size w2.heap.size vd w2) (hbw : Below w.heap.size w wb) (h0 : w.heap.size ≤ q) (hbox : Blk wb B1 24 bx) (hne : B1 ≠ q) :
    HalfQ w wb q B1 ok s bx (w2.setCell ⟨q, 0, none⟩ vd) := by
  have hql := hqb.lt
  have far : ∀ b, b ≠ q → (w2.setCell ⟨q, 0, none⟩ vd).heap[b]? = w2.heap[b]? := fun b hb => Below.heap_setCell w2 ⟨q, 0, none⟩ _ b hb
  have hq2 : Blk w2 q 37 (zArr (.pointer none) (.pointer none)) := hqb.below hb hql
  refine ⟨vd, hq2.set 0 vd, ?_, (hbw.trans (hb.mono hbw.size)).setCell h0 _, (far B1 hne).trans (hbox.below hb hbox.lt), by rw [size_setCell]; exact hb.size⟩
  rw [size_setCell]
  exact hd.keep (fun b h1 h2 => far b (by omega)) (by rw [size_setCell]; exact Nat.le_refl _)
/-- Both stand. -/
def BothQ (w : World) (q B1 : Nat) (ok : Bool) (s : DSt) (bx : Array Value) (lo : Nat) (wx : World) : Prop := ∃ vd vr b0 b1 b2, Blk wx q 37 (zArr vd vr) ∧ DMk ok s b0 b1 vd wx ∧ RMk ok s b2 vr wx ∧ Below w.heap.size w wx ∧ Blk wx B1 24 bx ∧ q < b0 ∧ b0 ≤ b2 ∧ b1 ≤ b2 ∧ lo ≤ b0
theorem both_ok {w wb w2 w4 : World} {q B1 : Nat} {ok : Bool} {s : DSt} {bx : Array Value} {vr : Value} (h : HalfQ w wb q B1 ok s bx w2) (hql : q < wb.heap.size) (h0 : w.heap.size ≤ q) (hne : B1 ≠ q) (hb : Below w2.heap.size w2 w4) (hr : RMk ok s w2.heap.size vr w4) :
    BothQ w q B1 ok s bx wb.heap.size (w4.setCell ⟨q, 1, none⟩ vr) := by
  obtain ⟨vd, h1, h2, h3, h4, h5⟩ := h
  have far : ∀ b, b ≠ q → (w4.setCell ⟨q, 1, none⟩ vr).heap[b]? = w4.heap[b]? := fun b hb => Below.heap_setCell w4 ⟨q, 1, none⟩ _ b hb
  have hq4 : Blk w4 q 37 (zArr vd (.pointer none)) := h1.below hb h1.lt
  have hl := h1.lt
  refine ⟨vd, vr, wb.heap.size, w2.heap.size, w2.heap.size, hq4.set 1 vr, ?_, ?_, (h3.trans (hb.mono h3.size)).setCell h0 _, (far B1 hne).trans (h4.below hb h4.lt), hql, h5, Nat.le_refl _, Nat.le_refl _⟩
  · refine (h2.keep (w1 := w4) (fun b _ hb' => hb.block b hb') hb.size).keep (fun b h1 h2 => far b (by omega)) (by rw [size_setCell]; exact Nat.le_refl _)
  · exact hr.keep (fun b h1 h2 => far b (by omega)) (by rw [size_setCell]; exact Nat.le_refl _)
theorem both_keep {w w4 wr : World} {q B1 lo H : Nat} {ok : Bool} {s : DSt} {bx : Array Value} (h : BothQ w q B1 ok s bx lo w4) (ho : OnlyP (fun b => b = H) w4 wr) (h1 : H < lo) (h2 : H ≠ q) (h3 : H ≠ B1) (h4 : w.heap.size ≤ H) : BothQ w q B1 ok s bx lo wr := by
  obtain ⟨vd, vr, b0, b1, b2, g1, g2, g3, g4, g5, g6, g7, g8, g9⟩ := h
  refine ⟨vd, vr, b0, b1, b2, (ho.block q g1.lt (fun e => h2 e.symm)).trans g1, g2.keep (fun b a c => ho.block b c (fun e => by omega)) ho.size, g3.keep (fun b a c => ho.block b c (fun e => by omega)) ho.size, ?_, (ho.block B1 g5.lt (fun e => h3 e.symm)).trans g5, g6, g7, g8, g9⟩
  exact g4.trans (ho.below g4.size (fun x hx => by rw [hx]; exact h4))
theorem below_of_drew' {w w' : World} (h : Below w.drew.heap.size w.drew w') : Below w.heap.size w w' := ⟨h.os, h.tape, h.output, h.size, h.block⟩
set_option maxHeartbeats 8000000 in
set_option maxRecDepth 100000 in
theorem made_new (w : World) (m : MadeV) (hr : Rd .u8 w m.iv m.img) (hk : m.load = false) :
    Calls Tryz.prog 11 #[m.agg] w (MadeQ w) := by
  obtain ⟨Q, eQ⟩ : ∃ Q, Q = MadeQ w := ⟨_, rfl⟩
  rw [← eQ]
  have EQ := Lib.hid eQ
  obtain ⟨A, cp, eiv⟩ := hr.slice
  obtain ⟨load, nb, sz, iv, img⟩ := m
  dsimp only at hk hr eiv
  subst hk eiv
  simp only [MadeV.agg]
  obtain ⟨L, eL⟩ : ∃ L, L = img.length := ⟨_, rfl⟩
  rw [← eL]
  obtain ⟨ok, x, s, hND, hNR⟩ := news nb sz
  have HND := Lib.hid hND
  have HNR := Lib.hid hNR
  clear eQ hr eL hND hNR
  go_enter Tryz.func11, Tryz.ntmps11
  go_upto_region 4 with (fail)
  obtain ⟨wa, ewa⟩ : ∃ wa, wa = w.alloc (.cells #[.bool false, .int .i64 nb, .int .i64 sz, .slice A L cp] 24) := ⟨_, rfl⟩
  obtain ⟨wb, ewb⟩ : ∃ wb, wb = wa.alloc (.cells (zArr (.pointer none) (.pointer none)) 37) := ⟨_, rfl⟩
  obtain ⟨B1, eB1⟩ : ∃ x, x = w.heap.size := ⟨_, rfl⟩
  obtain ⟨q, eq⟩ : ∃ x, x = w.heap.size + 1 := ⟨_, rfl⟩
  have hza : wa.heap.size = w.heap.size + 1 := by rw [ewa]; simp
  have hba : Below w.heap.size w wa := by rw [ewa]; exact (Below.refl _ _).alloc (Nat.le_refl _) _
  have hbw : Below w.heap.size w wb := by rw [ewb]; exact hba.alloc (hba.size) _
  have hbox : Blk wb B1 24 #[.bool false, .int .i64 nb, .int .i64 sz, .slice A L cp] := by rw [ewb, ewa, eB1]; exact (Blk.new _ _ _).alloc _
  have hqb : Blk wb q 37 (zArr (.pointer none) (.pointer none)) := by rw [ewb, eq, ← hza]; exact Blk.new _ _ _
  have hql : q < wb.heap.size := hqb.lt
  have hq0 : w.heap.size ≤ q := by omega
  have hBq : B1 ≠ q := by omega
  unfold zArr at ewb
  rw [← ewa, ← ewb, ← eq, ← eB1]
  have b0 : wb.cell? ⟨B1, 0, none⟩ = some (.bool false) := hbox.cell 0
  have b1 : wb.cell? ⟨B1, 1, none⟩ = some (.int .i64 nb) := hbox.cell 1
  have b2 : wb.cell? ⟨B1, 2, none⟩ = some (.int .i64 sz) := hbox.cell 2
  have c0 : wb.cell? ⟨q, 0, none⟩ = some (.pointer none) := hqb.cell 0
  have HBW := Lib.hid hbw
  have HBOX := Lib.hid hbox
  have HQB := Lib.hid hqb
  clear hza hba hbw hbox hqb ewa ewb eq eB1
  go_upto_region 14 with (fail)
  go_cut [5] from 64 to 74 (fun f wx => f = .int .i64 x ∧ HalfQ w wb q B1 ok s #[.bool false, .int .i64 nb, .int .i64 sz, .slice A L cp] wx)
  case first =>
    go_wp2_with fail
    refine (HND.out _).mono ?_
    rintro e w2 ⟨vd, rfl, hd, hb⟩
    obtain ⟨pd, rfl⟩ := hd.ptr
    have HB2 := Lib.hid hb
    have HD2 := Lib.hid hd
    have k0 : w2.cell? ⟨q, 0, none⟩ = some (.pointer none) := (HQB.out.below HB2.out HQB.out.lt).cell 0
    have fz : w2.frozen? ⟨q, 0, none⟩ = false := (HQB.out.below HB2.out HQB.out.lt).free 0
    clear hd hb
    go_wp2_with fail
    all_goals go_meet
    all_goals exact ⟨rfl, half_ok HQB.out HB2.out HD2.out HBW.out hq0 HBOX.out hBq⟩
  case rest =>
  obtain ⟨rfl, hhalf⟩ := hcut
  obtain ⟨w2, rfl⟩ : ∃ w2, w2 = wc := ⟨_, rfl⟩
  have HH := Lib.hid hhalf
  obtain ⟨vd, g1, g2, g3, g4, g5⟩ := hhalf
  have b1 : w2.cell? ⟨B1, 1, none⟩ = some (.int .i64 nb) := g4.cell 1
  have b2 : w2.cell? ⟨B1, 2, none⟩ = some (.int .i64 sz) := g4.cell 2
  have HG1 := Lib.hid g1
  clear g1 g2 g3 g4 g5 b0 c0 HND
  go_upto_region 15 with (fail)
  go_cut [6] from 75 to 85 (fun f wx => f = .int .i64 x ∧ BothQ w q B1 ok s #[.bool false, .int .i64 nb, .int .i64 sz, .slice A L cp] wb.heap.size wx)
  case first =>
    go_wp2_with fail
    refine (HNR.out _).mono ?_
    rintro e w4 ⟨vr, rfl, hd, hb⟩
    obtain ⟨pd, rfl⟩ := hd.ptr
    have HB4 := Lib.hid hb
    have HD4 := Lib.hid hd
    have k1 : w4.cell? ⟨q, 1, none⟩ = some (.pointer none) := (HG1.out.below HB4.out HG1.out.lt).cell 1
    have fz : w4.frozen? ⟨q, 1, none⟩ = false := (HG1.out.below HB4.out HG1.out.lt).free 1
    clear hd hb
    go_wp2_with fail
    all_goals go_meet
    all_goals exact ⟨rfl, both_ok HH.out hql hq0 hBq HB4.out HD4.out⟩
  case rest =>
  obtain ⟨rfl, hboth⟩ := hcut
  obtain ⟨w4, rfl⟩ : ∃ w4, w4 = wc := ⟨_, rfl⟩
  obtain ⟨vd2, vr2, z0, z1, z2, g1, g2, g3, g4, g5, g6, g7, g8, _⟩ := hboth
  have hF : ∀ m, Q (.returned (.tuple #[.pointer (some ⟨q, 0, none⟩), .bool true])) (w4.drewN m) := fun m => by
    rw [EQ.out]
    exact made_fin (w' := w4.drewN m) g1 (below_drewN g4 m) hq0 g6 (g2.keep (fun _ _ _ => rfl) (Nat.le_refl _)) (g3.keep (fun _ _ _ => rfl) (Nat.le_refl _)) g8 g7
  have HF := Lib.hid hF
  have HF0 := Lib.hid (hF 0)
  have e0 : w4.cell? ⟨q, 0, none⟩ = some vd2 := g1.cell 0
  have e1 : w4.cell? ⟨q, 1, none⟩ = some vr2 := g1.cell 1
  have hcases : (vd2 = .pointer none ∧ vr2 = .pointer none) ∨ ∃ d r, vd2 = .pointer (some ⟨d, 0, none⟩) ∧ vr2 = .pointer (some ⟨r, 0, none⟩) := by
    rcases g2 with ⟨a1, a2⟩ | ⟨a1, d, O, a2, _⟩
    · rcases g3 with ⟨b1, b2⟩ | ⟨b1, _⟩
      · exact .inl ⟨a2, b2⟩
      · rw [a1] at b1; cases b1
    · rcases g3 with ⟨b1, _⟩ | ⟨b1, r, P, b2, _⟩
      · rw [a1] at b1; cases b1
      · exact .inr ⟨d, r, a2, b2⟩
  clear g1 g2 g3 g4 g5 g6 g7 g8 hF b1 b2 HH HG1
  rcases hcases with ⟨rfl, rfl⟩ | ⟨d, r, rfl, rfl⟩
  all_goals
    go_wp2_with fail
    (try (go_quiet (fail); go_wp2_with fail))
    first | exact HF0.out | exact HF.out _ | (go_ret2; exact HF0.out) | (go_ret2; exact HF.out _)
end Go.Proofs.YtigfcoibbmndpaaGreat
/- The law's made: with an image. -/
namespace Go.Proofs.YtigfcoibbmndpaaGreat
open Go.RowKit
open Go.ChangeMaps
set_option linter.unusedVariables false
set_option linter.unusedSimpArgs false
set_option maxHeartbeats 8000000 in
set_option maxRecDepth 100000 in
theorem made_load (w : World) (m : MadeV) (hr : Rd .u8 w m.iv m.img) (hl : m.img.length ≤ 140737488351232) (hk : m.load = true) :
    Calls Tryz.prog 11 #[m.agg] w (MadeQ w) := by
  obtain ⟨Q, eQ⟩ : ∃ Q, Q = MadeQ w := ⟨_, rfl⟩
  rw [← eQ]
  have EQ := Lib.hid eQ
  obtain ⟨A, cp, eiv⟩ := hr.slice
  obtain ⟨load, nb, sz, iv, img⟩ := m
  dsimp only at hk hr eiv hl
  subst hk eiv
  simp only [MadeV.agg]
  obtain ⟨L, eL⟩ : ∃ L, L = img.length := ⟨_, rfl⟩
  rw [← eL] at hl hr ⊢
  have EL := Lib.hid eL
  have HR := Lib.hid hr
  obtain ⟨ok, x, s, hND, hNR⟩ := loads nb sz img
  have HND := Lib.hid hND
  have HNR := Lib.hid hNR
  clear eQ hr eL hND hNR
  go_enter Tryz.func11, Tryz.ntmps11
  go_upto_region 4 with (fail)
  obtain ⟨wa, ewa⟩ : ∃ wa, wa = w.alloc (.cells #[.bool true, .int .i64 nb, .int .i64 sz, .slice A L cp] 24) := ⟨_, rfl⟩
  obtain ⟨wb, ewb⟩ : ∃ wb, wb = wa.alloc (.cells (zArr (.pointer none) (.pointer none)) 37) := ⟨_, rfl⟩
  obtain ⟨B1, eB1⟩ : ∃ x, x = w.heap.size := ⟨_, rfl⟩
  obtain ⟨q, eq⟩ : ∃ x, x = w.heap.size + 1 := ⟨_, rfl⟩
  have hza : wa.heap.size = w.heap.size + 1 := by rw [ewa]; simp
  have hba : Below w.heap.size w wa := by rw [ewa]; exact (Below.refl _ _).alloc (Nat.le_refl _) _
  have hbw : Below w.heap.size w wb := by rw [ewb]; exact hba.alloc (hba.size) _
  have hbox : Blk wb B1 24 #[.bool true, .int .i64 nb, .int .i64 sz, .slice A L cp] := by rw [ewb, ewa, eB1]; exact (Blk.new _ _ _).alloc _
  have hqb : Blk wb q 37 (zArr (.pointer none) (.pointer none)) := by rw [ewb, eq, ← hza]; exact Blk.new _ _ _
  have hql : q < wb.heap.size := hqb.lt
  have hq0 : w.heap.size ≤ q := by omega
  have hBq : B1 ≠ q := by omega
  unfold zArr at ewb
  rw [← ewa, ← ewb, ← eq, ← eB1]
  have b0 : wb.cell? ⟨B1, 0, none⟩ = some (.bool true) := hbox.cell 0
  have b1 : wb.cell? ⟨B1, 1, none⟩ = some (.int .i64 nb) := hbox.cell 1
  have b2 : wb.cell? ⟨B1, 2, none⟩ = some (.int .i64 sz) := hbox.cell 2
  have c0 : wb.cell? ⟨q, 0, none⟩ = some (.pointer none) := hqb.cell 0
  have HBW := Lib.hid hbw
  have HBOX := Lib.hid hbox
  have HQB := Lib.hid hqb
  clear hza hba hbw hbox hqb ewa ewb eq eB1
  have b3 : wb.cell? ⟨B1, 3, none⟩ = some (.slice A L cp) := HBOX.out.cell 3
  have hrb : Rd .u8 wb (.slice A L cp) img := HR.out.below HBW.out
  have HRB := Lib.hid hrb
  obtain ⟨H, eH⟩ : ∃ x, x = wb.heap.size := ⟨_, rfl⟩
  have hhd := hand_ok (.slice A L cp) img wb hrb (by rw [← EL.out]; exact hl)
  have HHD := Lib.hid hhd
  have EH := Lib.hid eH
  clear hhd hrb eH
  go_wp2_with fail
  refine HHD.out.mono ?_
  rintro e wz ⟨rfl, hbz, hrz⟩
  rw [← EL.out, ← EH.out] at hrz ⊢
  have hHlt : H < wz.heap.size := hrz.lt
  have hqz := HQB.out.below hbz HQB.out.lt
  have hbxz := HBOX.out.below hbz HBOX.out.lt
  have hbwz := HBW.out.trans (hbz.mono HBW.out.size)
  have hqlz : q < wz.heap.size := hqz.lt
  have hHq : H ≠ q := by have := EH.out; omega
  have hB1l : B1 < wb.heap.size := HBOX.out.lt
  have hHB : H ≠ B1 := by have := EH.out; omega
  have hHw : w.heap.size ≤ H := by have := EH.out; have h9 : w.heap.size ≤ wb.heap.size := HBW.out.size; omega
  have hrdz := HRB.out.below hbz
  have HQZ := Lib.hid hqz
  have HBXZ := Lib.hid hbxz
  have HBWZ := Lib.hid hbwz
  have HRZ := Lib.hid hrz
  have HRDZ := Lib.hid hrdz
  have HALEN := Lib.hid (show A = none → L = 0 from fun hA => by
    rcases HR.out with ⟨h9, _⟩ | ⟨b, off, c', e, _⟩
    · rw [EL.out, h9]; rfl
    · rw [hA] at e; simp at e)
  have harg := Lib.hid (fun W => arg_ok H L cp A W hl)
  obtain ⟨av, eav⟩ : ∃ x, x = argV H (.slice A L cp) L := ⟨_, rfl⟩
  rw [← eav] at harg
  have hrda : Rd .u8 wz av img := by
    have h9 := argV_rd (g := H) (v := .slice A L cp) (zs := img) HRDZ.out (by rw [← EL.out]; exact HRZ.out)
    rw [← EL.out, ← eav] at h9; exact h9
  obtain ⟨Aa, ca, hav⟩ := argV_form H L cp A HALEN.out
  have hav2 : av = .slice Aa L ca := eav.trans hav
  clear eav hav
  subst hav2
  have HRDA := Lib.hid hrda
  have b1 : wz.cell? ⟨B1, 1, none⟩ = some (.int .i64 nb) := hbxz.cell 1
  have b2 : wz.cell? ⟨B1, 2, none⟩ = some (.int .i64 sz) := hbxz.cell 2
  have b3 : wz.cell? ⟨B1, 3, none⟩ = some (.slice A L cp) := hbxz.cell 3
  have c0 : wz.cell? ⟨q, 0, none⟩ = some (.pointer none) := hqz.cell 0
  clear hrda hqz hbxz hbwz hrz hrdz hbz HHD
  go_upto_region 6 with (fail)
  go_cut [5] from 16 to 30 (fun f wx => f = .int .i64 x ∧ HalfQ w wz q B1 ok s #[.bool true, .int .i64 nb, .int .i64 sz, .slice A L cp] wx ∧ RowA .u8 5 wx H (L + 6) (handF img 6))
  case first =>
    go_region_law (first
      | (go_simp; go_at_call 18; refine (harg.out _).mono ?_; rintro e w' ⟨rfl, rfl⟩)
      | (go_simp; go_at_call 17; refine (HND.out wz.drew _ HRDA.out).mono ?_; rintro e w2 ⟨vd, rfl, hd, hb⟩; obtain ⟨pd, rfl⟩ := hd.ptr; have HB2 := Lib.hid (below_of_drew' hb); have HD2 := Lib.hid hd; have k0 : w2.cell? ⟨q, 0, none⟩ = some (.pointer none) := (HQZ.out.below HB2.out HQZ.out.lt).cell 0; have fz : w2.frozen? ⟨q, 0, none⟩ = false := (HQZ.out.below HB2.out HQZ.out.lt).free 0; clear hd hb))
    all_goals go_wp2_with fail
    all_goals go_meet
    all_goals exact ⟨rfl, half_ok HQZ.out HB2.out HD2.out HBWZ.out hq0 HBXZ.out hBq, (HRZ.out.below HB2.out hHlt).far (p := ⟨q, 0, none⟩) hHq _⟩
  case rest =>
  obtain ⟨rfl, hhalf, hrow2⟩ := hcut
  obtain ⟨w2, rfl⟩ : ∃ w2, w2 = wc := ⟨_, rfl⟩
  have HH := Lib.hid hhalf
  have HROW2 := Lib.hid hrow2
  obtain ⟨vd, g1, g2, g3, g4, g5⟩ := hhalf
  have b1 : w2.cell? ⟨B1, 1, none⟩ = some (.int .i64 nb) := g4.cell 1
  have b2 : w2.cell? ⟨B1, 2, none⟩ = some (.int .i64 sz) := g4.cell 2
  have b3 : w2.cell? ⟨B1, 3, none⟩ = some (.slice A L cp) := g4.cell 3
  have HG1 := Lib.hid g1
  have hrd2 : Rd .u8 w2 (.slice A L cp) img := HR.out.below g3
  have HRD2 := Lib.hid hrd2
  clear g1 g2 g3 g4 g5 b0 c0 HND hrow2 hrd2 harg HRDA
  go_upto_region 7 with (fail)
  go_cut [6] from 31 to 43 (fun f wx => f = .int .i64 x ∧ BothQ w q B1 ok s #[.bool true, .int .i64 nb, .int .i64 sz, .slice A L cp] wz.heap.size wx ∧ RowA .u8 5 wx H (L + 6) (handF img 6))
  case first =>
    go_wp2_with fail
    refine (HNR.out w2 _ HRD2.out).mono ?_
    rintro e w4 ⟨vr, rfl, hd, hb⟩
    obtain ⟨pd, rfl⟩ := hd.ptr
    have HB4 := Lib.hid hb
    have HD4 := Lib.hid hd
    have k1 : w4.cell? ⟨q, 1, none⟩ = some (.pointer none) := (HG1.out.below HB4.out HG1.out.lt).cell 1
    have fz : w4.frozen? ⟨q, 1, none⟩ = false := (HG1.out.below HB4.out HG1.out.lt).free 1
    clear hd hb
    go_wp2_with fail
    all_goals go_meet
    all_goals exact ⟨rfl, both_ok HH.out hqlz hq0 hBq HB4.out HD4.out, (HROW2.out.below HB4.out HROW2.out.lt).far (p := ⟨q, 1, none⟩) hHq _⟩
  case rest =>
  obtain ⟨rfl, hboth, hrow4⟩ := hcut
  obtain ⟨w4, rfl⟩ : ∃ w4, w4 = wc := ⟨_, rfl⟩
  have HBOTH := Lib.hid hboth
  have hb4 : Below w.heap.size w w4 := by obtain ⟨_, _, _, _, _, _, _, _, h, _⟩ := hboth; exact h
  have hbx4 : Blk w4 B1 24 #[.bool true, .int .i64 nb, .int .i64 sz, .slice A L cp] := by obtain ⟨_, _, _, _, _, _, _, _, _, h, _⟩ := hboth; exact h
  have b3 : w4.cell? ⟨B1, 3, none⟩ = some (.slice A L cp) := hbx4.cell 3
  have hut := untouched_ok H (.slice A L cp) img w4 (HR.out.below hb4) (by rw [← EL.out]; exact hl) (by rw [← EL.out]; exact hrow4)
  rw [← EL.out] at hut
  have HUT := Lib.hid hut
  have HROW4 := Lib.hid hrow4
  clear hboth hb4 hbx4 hut hrow4 b1 b2 HH HG1 HROW2 HRD2
  go_wp2_with fail
  refine HUT.out.mono ?_
  rintro e w5 ⟨m5, rfl, rfl⟩
  obtain ⟨w5, e5⟩ : ∃ x, x = w4.drewN m5 := ⟨_, rfl⟩
  have hbo5 : BothQ w q B1 ok s #[.bool true, .int .i64 nb, .int .i64 sz, .slice A L cp] wz.heap.size w5 := by rw [e5]; exact both_keep HBOTH.out ((OnlyP.refl _ _).drewN m5) hHlt hHq hHB hHw
  have hrow5 : RowA .u8 5 w5 H (L + 6) (handF img 6) := by rw [e5]; exact HROW4.out
  rw [← e5]
  have HB5 := Lib.hid hbo5
  have HR5 := Lib.hid hrow5
  clear e5 hbo5 hrow5 HUT b3
  go_wp2_with fail
  go_loopw [8] (fun b wr => ∃ i : Nat, i ≤ L + 6 ∧ b = .int .i64 i ∧ (∃ f, RowA .u8 5 wr H (L + 6) f) ∧ BothQ w q B1 ok s #[.bool true, .int .i64 nb, .int .i64 sz, .slice A L cp] wz.heap.size wr) (fun b _ => L + 6 - (intOf b).toNat)
  case atStart => exact ⟨0, Nat.zero_le _, rfl, ⟨_, HR5.out⟩, HB5.out⟩
  case round =>
    obtain ⟨i, hi, rfl, ⟨f, hrow⟩, hbo⟩ := hrel
    have HROW := Lib.hid hrow
    have HBO := Lib.hid hbo
    by_cases hlt : i < L + 6
    · have cz := hrow.cell i hlt
      have fz := hrow.free i
      have hnext : ∀ v : Int, BothQ w q B1 ok s #[.bool true, .int .i64 nb, .int .i64 sz, .slice A L cp] wz.heap.size (wr.setCell ⟨H, i, none⟩ (.int .u8 v)) ∧ ∃ f, RowA .u8 5 (wr.setCell ⟨H, i, none⟩ (.int .u8 v)) H (L + 6) f := fun v =>
        ⟨both_keep HBO.out ((OnlyP.refl (fun b => b = H) wr).set (p := ⟨H, i, none⟩) (.inl rfl) _) hHlt hHq hHB hHw, _, HROW.out.put i v⟩
      have HNX := Lib.hid hnext
      obtain ⟨y, ey⟩ : ∃ y, y = f i := ⟨_, rfl⟩
      rw [← ey] at cz
      have hlt2 : decide (i < L + 6) = true := decide_eq_true hlt
      have hlt3 : (i : Int) < (L : Int) + 6 := by omega
      clear hrow hbo hnext ey
      go_wp2_with fail
      go_roundw
      case rel => exact ⟨i + 1, by omega, by go_num, (HNX.out _).2, (HNX.out _).1⟩
      case measure => simp [intOf] <;> omega
    · have hnl : decide (i < L + 6) = false := decide_eq_false hlt
      have hnl3 : ¬ (i : Int) < (L : Int) + 6 := by omega
      obtain ⟨vd2, vr2, z0, z1, z2, g1, g2, g3, g4, g5, g6, g7, g8, _⟩ := hbo
      have hF : ∀ m, Q (.returned (.tuple #[.pointer (some ⟨q, 0, none⟩), .bool true])) (wr.drewN m) := fun m => by
        rw [EQ.out]
        exact made_fin (w' := wr.drewN m) g1 (below_drewN g4 m) hq0 g6 (g2.keep (fun _ _ _ => rfl) (Nat.le_refl _)) (g3.keep (fun _ _ _ => rfl) (Nat.le_refl _)) g8 g7
      have HF := Lib.hid hF
      have HF0 := Lib.hid (hF 0)
      have e0 : wr.cell? ⟨q, 0, none⟩ = some vd2 := g1.cell 0
      have e1 : wr.cell? ⟨q, 1, none⟩ = some vr2 := g1.cell 1
      have hcases : (vd2 = .pointer none ∧ vr2 = .pointer none) ∨ ∃ d r, vd2 = .pointer (some ⟨d, 0, none⟩) ∧ vr2 = .pointer (some ⟨r, 0, none⟩) := by
        rcases g2 with ⟨a1, a2⟩ | ⟨a1, d, O, a2, _⟩
        · rcases g3 with ⟨b1, b2⟩ | ⟨b1, _⟩
          · exact .inl ⟨a2, b2⟩
          · rw [a1] at b1; cases b1
        · rcases g3 with ⟨b1, _⟩ | ⟨b1, r, P, b2, _⟩
          · rw [a1] at b1; cases b1
          · exact .inr ⟨d, r, a2, b2⟩
      clear g1 g2 g3 g4 g5 g6 g7 g8 hF hrow
      rcases hcases with ⟨rfl, rfl⟩ | ⟨d, r, rfl, rfl⟩
      all_goals
        go_wp2_with fail
        (try (go_quiet (fail); go_wp2_with fail))
        first | exact HF0.out | exact HF.out _ | (go_ret2; exact HF0.out) | (go_ret2; exact HF.out _)
end Go.Proofs.YtigfcoibbmndpaaGreat
/- The law's play: a script on both disks. -/
namespace Go.Proofs.YtigfcoibbmndpaaGreat
open Go.RowKit
open Go.ChangeMaps
set_option linter.unusedVariables false
set_option linter.unusedSimpArgs false
def d0 : OpV := ⟨0, 0, 0, .slice none 0 0, []⟩
/-- A call's words in the world. -/
structure OpR1 (w : World) (b off : Nat) (o : OpV) : Prop where
  c0 : w.cell? ⟨b, off, none⟩ = some (.int .i64 o.kind)
  c1 : w.cell? ⟨b, off + 1, none⟩ = some (.int .i64 o.blk)
  c2 : w.cell? ⟨b, off + 2, none⟩ = some (.int .i64 o.cnt)
  c3 : w.cell? ⟨b, off + 3, none⟩ = some o.dv
  rd : Rd .u8 w o.dv o.data
  i1 : I64 o.blk
  i2 : I64 o.cnt
  bl : BytesL o.data
  ln : o.data.length ≤ 9223372036854775807
def OpsR (w : World) (v : Value) (os : List OpV) : Prop :=
  os.length * 48 ≤ 140737488351232 ∧ ((os = [] ∧ ∃ A c, v = .slice A 0 c) ∨ ∃ b off c, v = .slice (some ⟨b, off, none⟩) os.length c ∧ 0 < os.length ∧ os.length ≤ c ∧ b < w.heap.size ∧ ∀ i, i < os.length → OpR1 w b (off + i * 4) (os.getD i d0))
theorem OpsR.slice {w : World} {v : Value} {os : List OpV} (h : OpsR w v os) : ∃ A c, v = .slice A os.length c := by
  rcases h.2 with ⟨rfl, A, c, rfl⟩ | ⟨b, off, c, rfl, _⟩
  · exact ⟨A, c, rfl⟩
  · exact ⟨_, c, rfl⟩
theorem rdN_old {O : Nat → Prop} {B : Nat} {w w1 : World} {v : Value} {xs : List Int} (h : Rd .u8 w v xs) (hB : w.heap.size ≤ B) (hb : Below w.heap.size w w1) (hO : ∀ b, O b → B ≤ b) : RdN O w1 v xs := by
  refine ⟨h.below hb, ?_⟩
  intro b1 off1 n1 c1 he hn hb1
  have := hO b1 hb1
  rcases h with ⟨_, A, c, rfl⟩ | ⟨b, off, c, rfl, h1, h2, h3, h4⟩
  · simp only [Value.slice.injEq] at he
    omega
  · simp only [Value.slice.injEq, Option.some.injEq, Addr.mk.injEq] at he
    omega
theorem OpR1.below {w w1 : World} {b off : Nat} {o : OpV} (h : OpR1 w b off o) (hb : b < w.heap.size) (hw : Below w.heap.size w w1) : OpR1 w1 b off o :=
  have hc : ∀ i, w1.cell? ⟨b, i, none⟩ = w.cell? ⟨b, i, none⟩ := fun i => cell_of_heap (hw.block b hb) i
  ⟨(hc _).trans h.c0, (hc _).trans h.c1, (hc _).trans h.c2, (hc _).trans h.c3, h.rd.below hw, h.i1, h.i2, h.bl, h.ln⟩
theorem made_ok (w : World) (m : MadeV) (hr : Rd .u8 w m.iv m.img) (hl : m.img.length ≤ 140737488351232) :
    Calls Tryz.prog 11 #[m.agg] w (MadeQ w) := by
  cases h : m.load
  · exact made_new w m hr h
  · exact made_load w m hr hl h
set_option maxHeartbeats 4000000 in
set_option maxRecDepth 100000 in
theorem play_ok (w : World) (m : MadeV) (v : Value) (os : List OpV) (lo hi : Int) (hr : Rd .u8 w m.iv m.img) (hml : m.img.length ≤ 140737488351232) (hv : OpsR w v os) (hn : os.length ≤ 1048576) (hd : ∀ i, i < os.length → (os.getD i d0).data.length ≤ 1048576) :
    Calls Tryz.prog 13 #[m.agg, v, .int .i64 lo, .int .i64 hi] w fun e w' => e = .returned (.bool true) ∧ Below w.heap.size w w' := by
  obtain ⟨Q, eQ⟩ : ∃ Q : Ending → World → Prop, Q = fun e w' => e = .returned (.bool true) ∧ Below w.heap.size w w' := ⟨_, rfl⟩
  rw [← eQ]
  have EQ := Lib.hid eQ
  obtain ⟨wb, ewb⟩ : ∃ wb, wb = w.alloc (.cells #[.bool m.load, .int .i64 m.nb, .int .i64 m.sz, m.iv] 24) := ⟨_, rfl⟩
  have hbw : Below w.heap.size w wb := by rw [ewb]; exact (Below.refl _ _).alloc (Nat.le_refl _) _
  have hbox : Blk wb w.heap.size 24 #[.bool m.load, .int .i64 m.nb, .int .i64 m.sz, m.iv] := by rw [ewb]; exact Blk.new _ _ _
  have hmd := made_ok wb m (hr.below hbw) hml
  obtain ⟨A, c, rfl⟩ := hv.slice
  obtain ⟨L, eL⟩ : ∃ L, L = os.length := ⟨_, rfl⟩
  rw [← eL] at hn hd ⊢
  obtain ⟨Ai, ci, eiv⟩ := hr.slice
  have HV := Lib.hid hv
  have EL := Lib.hid eL
  have HD := Lib.hid hd
  have HBW := Lib.hid hbw
  have HBOX := Lib.hid hbox
  have HMD := Lib.hid hmd
  have EWB := Lib.hid ewb
  clear eQ hr hml hv eL hd hbw hbox hmd ewb
  obtain ⟨load, nb, sz, iv, img⟩ := m
  dsimp only at eiv HBOX EWB HMD
  subst eiv
  simp only [MadeV.agg] at HMD ⊢
  go_enter Tryz.func13, Tryz.ntmps13
  go_upto_region 1 with (fail)
  rw [← EWB.out]
  obtain ⟨B1, eB1⟩ : ∃ x, x = w.heap.size := ⟨_, rfl⟩
  rw [← eB1] at HBOX ⊢
  have EB1 := Lib.hid eB1
  clear eB1
  have b0 := HBOX.out.cell 0
  have b1 := HBOX.out.cell 1
  have b2 := HBOX.out.cell 2
  have b3 := HBOX.out.cell 3
  simp only [List.getElem?_toArray, List.getElem?_cons_zero, List.getElem?_cons_succ] at b0 b1 b2 b3
  go_wp2_with fail
  refine HMD.out.mono ?_
  rintro e w2 ⟨q, rfl, hb2, hq, hcase⟩
  have hbb : Below w.heap.size w w2 := HBW.out.trans (hb2.mono HBW.out.size)
  have HB2 := Lib.hid hbb
  have hqw : w.heap.size ≤ q := Nat.le_trans HBW.out.size hq
  clear HMD b0 b1 b2 b3 hb2 hbb hq
  rcases hcase with ⟨X, hpr, hX⟩ | hz
  · have hX2 : ∀ b, X b → w.heap.size ≤ b := fun b hb => Nat.le_trans HBW.out.size (hX b hb)
    obtain ⟨d, s, O, r, P, wh, k, nB, ha⟩ := id hpr
    have c0 : w2.cell? ⟨q, 0, none⟩ = some (.pointer (some ⟨d, 0, none⟩)) := ha.blk.cell 0
    have HPR := Lib.hid hpr
    have HX2 := Lib.hid hX2
    clear hpr hX hX2 ha
    go_wp2_with fail
    clear c0
    go_loopw [11, 12] (fun b _ wr => ∃ i : Nat, i ≤ L ∧ b = .int .i64 i ∧ ∃ X, PairR X wr q (8193 * i) ∧ (∀ b, X b → w.heap.size ≤ b) ∧ Below w.heap.size w wr) (fun b _ _ => L - (intOf b).toNat)
    case atStart => exact ⟨0, Nat.zero_le _, rfl, X, HPR.out, HX2.out, HB2.out⟩
    case round =>
      obtain ⟨i, hi, rfl, X, hpr, hX, hbr⟩ := hrel
      have HBR := Lib.hid hbr
      have HX := Lib.hid hX
      by_cases hlt : i < L
      · obtain ⟨bb, off, rfl, hbbl, ho1⟩ : ∃ bb off, A = some ⟨bb, off, none⟩ ∧ bb < w.heap.size ∧ OpR1 w bb (off + i * 4) (os.getD i d0) := by
          rcases HV.out.2 with ⟨h, _⟩ | ⟨b, off, c, e, g1, g2, g3, g4⟩
          · have := EL.out; rw [h] at this; simp at this; omega
          · simp only [Value.slice.injEq] at e
            exact ⟨b, off, e.1, g3, g4 i (by rw [← EL.out]; exact hlt)⟩
        have hdl := HD.out i hlt
        obtain ⟨o, eo⟩ : ∃ o, o = os.getD i d0 := ⟨_, rfl⟩
        rw [← eo] at ho1 hdl
        have ho2 := ho1.below hbbl hbr
        have k0 := ho2.c0
        have k1 := ho2.c1
        have k2 := ho2.c2
        have k3 := ho2.c3
        obtain ⟨d, s, O, r, P, wh, k, nB, ha⟩ := hpr
        have hst := step_ok X wr q d s O r P wh (8193 * i) k nB o ha (rdN_old ho1.rd (Nat.le_refl _) hbr hX) ho1.i1 ho1.i2 ho1.bl hdl (by omega)
        have HST := Lib.hid hst
        unfold OpV.agg at HST
        have hlt2 : decide (i < L) = true := decide_eq_true hlt
        clear hst eo ho1 ho2 ha hX hbr hdl
        obtain ⟨kind, blk, cnt, dv, data⟩ := o
        dsimp only at k0 k1 k2 k3 HST
        go_wp2_with fail
        refine HST.out.mono ?_
        rintro e w4 ⟨rfl, hon, X4, hpr4, hX4⟩
        have hxw : ∀ b, X4 b → w.heap.size ≤ b := fun b hb => (hX4 b hb).elim (HX.out b) (fun h => Nat.le_trans HBR.out.size h)
        have hb4 : Below w.heap.size w w4 := HBR.out.trans (hon.below HBR.out.size HX.out)
        have hpr5 : PairR X4 w4 q (8193 * (i + 1)) := by rw [show 8193 * (i + 1) = 8193 * i + 8193 by omega]; exact hpr4
        have HPR5 := Lib.hid hpr5
        have HXW := Lib.hid hxw
        have HB4 := Lib.hid hb4
        clear HST hon hpr4 hX4 hxw hb4 hpr5 k0 k1 k2 k3
        go_wp2_with fail
        go_roundw
        case rel => exact ⟨i + 1, by omega, by go_num, X4, HPR5.out, HXW.out, HB4.out⟩
        case measure => simp [intOf] <;> omega
      · obtain rfl : L = i := by omega
        have HF := Lib.hid (show Q (.returned (.bool true)) wr by rw [EQ.out]; exact ⟨rfl, hbr⟩)
        clear hpr hX hbr
        go_wp2_with fail
        first | exact HF.out | (go_ret; exact HF.out)
  · have c0 : w2.cell? ⟨q, 0, none⟩ = some (.pointer none) := hz.cell 0
    have HF := Lib.hid (show Q (.returned (.bool true)) w2 by rw [EQ.out]; exact ⟨rfl, HB2.out⟩)
    clear hz
    go_wp2_with fail
    first | exact HF.out | (go_ret; exact HF.out)
end Go.Proofs.YtigfcoibbmndpaaGreat
