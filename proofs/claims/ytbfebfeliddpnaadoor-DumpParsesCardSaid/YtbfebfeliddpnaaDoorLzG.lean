/- The book: late. -/
import Derived.Test.YtbfebfeliddpnaaDoorLzF
import Derived.StillTailTactics
namespace Go.Proofs.YtbfebfeliddpnaaDoor
open Go.RowKit
open Go.ChangeMaps
set_option linter.unusedVariables false
set_option linter.unusedSimpArgs false
abbrev DL := List (Dm × Value × Value)
def flatD : DL → List Value
  | [] => []
  | x :: l => (x.1.arr x.2.1 x.2.2).toList ++ flatD l
theorem arr_len (D : Dm) (a b : Value) : (D.arr a b).toList.length = 12 := rfl
theorem flatD_len : ∀ l : DL, (flatD l).length = l.length * 12
  | [] => rfl
  | x :: l => by rw [flatD, List.length_append, arr_len, flatD_len l, List.length_cons]; omega
theorem flatD_get : ∀ (l : DL) (i : Nat) (x : Dm × Value × Value), l[i]? = some x → ∀ k, k < 12 → (flatD l)[i * 12 + k]? = (x.1.arr x.2.1 x.2.2)[k]?
  | [], i, x, h, k, hk => by simp at h
  | y :: l, 0, x, h, k, hk => by
    simp only [List.getElem?_cons_zero, Option.some.injEq] at h
    subst h
    rw [flatD, List.getElem?_append_left (by rw [arr_len]; omega), Nat.zero_mul, Nat.zero_add, Array.getElem?_toList]
  | y :: l, i + 1, x, h, k, hk => by
    rw [flatD, List.getElem?_append_right (by rw [arr_len]; omega), arr_len, show (i + 1) * 12 + k - 12 = i * 12 + k by omega]
    exact flatD_get l i x (by simpa using h) k hk
theorem flatD_snoc (x : Dm × Value × Value) : ∀ l : DL, flatD (l ++ [x]) = flatD l ++ (x.1.arr x.2.1 x.2.2).toList
  | [] => by simp [flatD]
  | y :: l => by rw [List.cons_append, flatD, flatD_snoc x l, flatD, List.append_assoc]
theorem own_dl {w : World} {C : Nat} {v : Value} {L : DL} (h : w.ownsRow C 31 12 v L.length (flatD L)) {i : Nat} {x : Dm × Value × Value} (hi : L[i]? = some x) : ∃ g cap, v = .slice (some ⟨g, 0, none⟩) L.length cap ∧ g < w.heap.size ∧ ∀ k, k < 12 → w.cell? ⟨g, i * 12 + k, none⟩ = (x.1.arr x.2.1 x.2.2)[k]? := by
  have hl : i < L.length := (List.getElem?_eq_some_iff.1 hi).1
  obtain ⟨g, cap, rfl, _, hlt⟩ := h.form (by omega)
  exact ⟨g, cap, rfl, hlt, fun k hk => by rw [h.cellAt (i * 12 + k) (by omega), flatD_get L i x hi k hk]⟩
def OwnD (x : Dm × Value × Value) (g : Nat) : Prop := x.2.1.ownBlock = some g ∨ x.2.2.ownBlock = some g
def SL (S : Nat → Prop) (N : Nat) (L : DL) (i b : Nat) : Prop := S b ∨ N ≤ b ∨ ∃ (j : Nat) (x : Dm × Value × Value), j < i ∧ L[j]? = some x ∧ OwnD x b
theorem BkS.mono {B : Nat} {w : World} {p n : Nat} {S S1 : Nat → Prop} {vW vI : Value} {LW LI : List Value} (h : BkS B w p n S vW vI LW LI) (hs : ∀ g, S g → S1 g) : BkS B w p n S1 vW vI LW LI := ⟨h.blk, h.hp, h.ws, h.is, h.mw.mono hs, h.mi.mono hs⟩
theorem BkS.below {B C : Nat} {w w1 : World} {p n : Nat} {S : Nat → Prop} {vW vI : Value} {LW LI : List Value} (h : BkS B w p n S vW vI LW LI) (hb : Below C w w1) (hC : w.heap.size ≤ C) : BkS B w1 p n S vW vI LW LI :=
  ⟨(hb.block p (by have := h.blk.lt; omega)).trans h.blk, h.hp, own_keep2 h.ws (fun g hg => hb.block g (by have := (h.ws.lt g hg).2; omega)), own_keep2 h.is (fun g hg => hb.block g (by have := (h.is.lt g hg).2; omega)), h.mw.heap hb.size (fun g cs _ hbk => hb.block g (by have := hbk.lt; omega)), h.mi.heap hb.size (fun g cs _ hbk => hb.block g (by have := hbk.lt; omega))⟩
theorem BkS.drew {B : Nat} {w : World} {p n : Nat} {S : Nat → Prop} {vW vI : Value} {LW LI : List Value} (h : BkS B w p n S vW vI LW LI) : BkS B w.drew p n S vW vI LW LI := ⟨h.blk, h.hp, h.ws, h.is, h.mw, h.mi⟩
set_option maxHeartbeats 8000000 in
set_option maxRecDepth 100000 in
theorem late_ok (B C : Nat) (w : World) (p n : Nat) (S : Nat → Prop) (vW vI : Value) (LW LI : List Value) (hK : BkS B w p n S vW vI LW LI) (hn : n ≤ 100) (hB : B ≤ w.heap.size) (hCB : C ≤ B) (v1 v2 : Value) (L1 L2 : DL) (hN : L1.length ≤ 10) (hl : L1.length = L2.length)
    (o1 : w.ownsRow C 31 12 v1 L1.length (flatD L1)) (o2 : w.ownsRow C 31 12 v2 L2.length (flatD L2)) (hv1 : ∀ g, v1.ownBlock = some g → g < B)
    (hd : ∀ (i : Nat) (x y : Dm × Value × Value), L1[i]? = some x → L2[i]? = some y → x.1 = y.1 ∧ x.1.bl ≤ 4096 ∧ x.1.slots.length ≤ 16 ∧ DumpIn C w x.1 x.2.1 x.2.2 ∧ Rd .u64 w y.2.1 x.1.wl ∧ Rd .i64 w y.2.2 x.1.slots)
    (hs : ∀ (i : Nat) (x : Dm × Value × Value) (g : Nat), L1[i]? = some x → OwnD x g → g < B ∧ ¬ S g) (hsep : ∀ (i j : Nat) (x y : Dm × Value × Value) (g : Nat), i < j → L1[i]? = some x → L1[j]? = some y → OwnD x g → ¬ OwnD y g) :
    Calls Tryd.prog 13 #[.pointer (some ⟨p, 0, none⟩), v1, v2] w (fun e w' => e = .returned (.bool true) ∧ OnlyP (fun b => C ≤ b) w w') := by
  obtain ⟨Q, eQ⟩ : ∃ Q : Ending → World → Prop, Q = fun e w' => e = .returned (.bool true) ∧ OnlyP (fun b => C ≤ b) w w' := ⟨_, rfl⟩
  rw [← eQ]
  have HF := Lib.hid (fun w' (h : OnlyP (fun b => C ≤ b) w w') => show Q (.returned (.bool true)) w' by rw [eQ]; exact ⟨rfl, h⟩)
  clear eQ
  obtain ⟨N, eN⟩ : ∃ x, x = L1.length := ⟨_, rfl⟩
  have o2' := o2
  rw [← hl] at o2'
  rw [← eN] at o1 o2' hN
  obtain ⟨A1, c1, rfl⟩ := own_sl o1
  obtain ⟨A2, c2, rfl⟩ := own_sl o2'
  have EN := Lib.hid eN
  have HL := Lib.hid hl
  have O1 := Lib.hid o1
  have O2 := Lib.hid o2'
  have HD := Lib.hid hd
  have HK := Lib.hid hK
  have HV1 := Lib.hid hv1
  have HS := Lib.hid hs
  have HSEP := Lib.hid hsep
  clear eN hl o1 o2 o2' hd hK hv1 hs hsep
  go_enter Tryd.func13, Tryd.ntmps13
  go_wp2_with fail
  go_loopw [7, 8] (fun iv _ wr => ∃ i : Nat, iv = .int .i64 (i : Nat) ∧ i ≤ N ∧ Below w.heap.size w wr) (fun iv _ _ => N - (intOf iv).toNat)
  case atStart => exact ⟨0, rfl, Nat.zero_le _, Below.refl _ _⟩
  case round =>
    obtain ⟨i, rfl, hi, hb⟩ := hrel
    by_cases hlt : i < N
    · have di : decide (i < N) = true := decide_eq_true hlt
      obtain ⟨x, hx⟩ : ∃ x : Dm × Value × Value, L1[i]? = some x := ⟨_, List.getElem?_eq_getElem (by rw [← EN.out]; exact hlt)⟩
      obtain ⟨y, hy⟩ : ∃ y : Dm × Value × Value, L2[i]? = some y := ⟨_, List.getElem?_eq_getElem (by rw [← HL.out, ← EN.out]; exact hlt)⟩
      obtain ⟨hxy, hbl, hsl, hdi, hr1, hr2⟩ := HD.out i x y hx hy
      have o1 := O1.out
      have o2 := O2.out
      obtain ⟨cI, cJ, h1, h2⟩ : ∃ gA gB : Nat, (A1 = some ⟨gA, 0, none⟩ ∧ gA < wr.heap.size ∧ ∀ k, k < 12 → wr.cell? ⟨gA, i * 12 + k, none⟩ = (x.1.arr x.2.1 x.2.2)[k]?) ∧ (A2 = some ⟨gB, 0, none⟩ ∧ gB < wr.heap.size ∧ ∀ k, k < 12 → wr.cell? ⟨gB, i * 12 + k, none⟩ = (x.1.arr y.2.1 y.2.2)[k]?) := by
        rw [EN.out] at o1
        rw [show N = L2.length by rw [EN.out, HL.out]] at o2
        obtain ⟨gA, ca, e1, l1, k1⟩ := own_dl o1 hx
        obtain ⟨gB, cb, e2, l2, k2⟩ := own_dl o2 hy
        simp only [Value.slice.injEq] at e1 e2
        refine ⟨gA, gB, ⟨e1.1, Nat.lt_of_lt_of_le l1 hb.size, fun k hk => ?_⟩, ⟨e2.1, Nat.lt_of_lt_of_le l2 hb.size, fun k hk => ?_⟩⟩
        · rw [cell_of_heap (hb.block gA l1) _]; exact k1 k hk
        · rw [cell_of_heap (hb.block gB l2) _, hxy]; exact k2 k hk
      obtain ⟨rfl, hA1, hcA⟩ := h1
      obtain ⟨rfl, hB1, hcB⟩ := h2
      obtain ⟨wd, ewd⟩ : ∃ z, z = wr.drew := ⟨_, rfl⟩
      have hbd : Below w.heap.size w wd := by rw [ewd]; exact ⟨hb.os, hb.tape, hb.output, hb.size, hb.block⟩
      have hSD := sameDump_ok wd x.1 x.2.1 x.2.2 y.2.1 y.2.2 hbl hsl (hdi.rdb.below hbd) (hdi.rds.below hbd) (hr1.below hbd) (hr2.below hbd)
      obtain ⟨Av, cav, ev⟩ := (hdi.rdb).slice
      obtain ⟨Aw, caw, ew⟩ := (hdi.rds).slice
      obtain ⟨Ay, cay, ey⟩ := hr1.slice
      obtain ⟨Az, caz, ez⟩ := hr2.slice
      rw [ev, ew, ey, ez] at hSD
      rw [ev, ew] at hcA
      rw [ey, ez] at hcB
      unfold Dm.arr at hSD hcA hcB
      obtain ⟨n1, en1⟩ : ∃ z, z = x.1.wl.length := ⟨_, rfl⟩
      obtain ⟨n2, en2⟩ : ∃ z, z = x.1.slots.length := ⟨_, rfl⟩
      rw [← en1, ← en2] at hSD hcA hcB
      obtain ⟨sq, esq⟩ : ∃ z, z = x.1.sq := ⟨_, rfl⟩
      obtain ⟨bl, ebl⟩ : ∃ z, z = x.1.bl := ⟨_, rfl⟩
      obtain ⟨sz, esz⟩ : ∃ z, z = x.1.sz := ⟨_, rfl⟩
      obtain ⟨sl, esl⟩ : ∃ z, z = x.1.sl := ⟨_, rfl⟩
      obtain ⟨g0, eg0⟩ : ∃ z, z = x.1.g0 := ⟨_, rfl⟩
      obtain ⟨g1, eg1⟩ : ∃ z, z = x.1.g1 := ⟨_, rfl⟩
      obtain ⟨g2, eg2⟩ : ∃ z, z = x.1.g2 := ⟨_, rfl⟩
      obtain ⟨g3, eg3⟩ : ∃ z, z = x.1.g3 := ⟨_, rfl⟩
      obtain ⟨fl, efl⟩ : ∃ z, z = x.1.fl := ⟨_, rfl⟩
      obtain ⟨mr, emr⟩ : ∃ z, z = x.1.mr := ⟨_, rfl⟩
      rw [← esq, ← ebl, ← esz, ← esl, ← eg0, ← eg1, ← eg2, ← eg3, ← efl, ← emr] at hSD hcA hcB
      clear esq ebl esz esl eg0 eg1 eg2 eg3 efl emr en1 en2 ev ew ey ez hdi hr1 hr2 hbl hsl hxy o1 o2
      have x0 : wr.cell? ⟨cI, i * 12, none⟩ = some (.int .u64 (sq : Nat)) := by have h9 := hcA 0 (by omega); rw [Nat.add_zero] at h9; exact h9
      have x1 : wr.cell? ⟨cI, i * 12 + 1, none⟩ = some (.int .i64 (bl : Nat)) := hcA 1 (by omega)
      have x2 : wr.cell? ⟨cI, i * 12 + 2, none⟩ = some (.int .i64 (sz : Nat)) := hcA 2 (by omega)
      have x3 : wr.cell? ⟨cI, i * 12 + 3, none⟩ = some (.int .i64 (sl : Nat)) := hcA 3 (by omega)
      have x4 : wr.cell? ⟨cI, i * 12 + 4, none⟩ = some (.int .u64 (g0 : Nat)) := hcA 4 (by omega)
      have x5 : wr.cell? ⟨cI, i * 12 + 5, none⟩ = some (.int .u64 (g1 : Nat)) := hcA 5 (by omega)
      have x6 : wr.cell? ⟨cI, i * 12 + 6, none⟩ = some (.int .u64 (g2 : Nat)) := hcA 6 (by omega)
      have x7 : wr.cell? ⟨cI, i * 12 + 7, none⟩ = some (.int .u64 (g3 : Nat)) := hcA 7 (by omega)
      have x8 : wr.cell? ⟨cI, i * 12 + 8, none⟩ = some (.int .u32 (fl : Nat)) := hcA 8 (by omega)
      have x9 : wr.cell? ⟨cI, i * 12 + 9, none⟩ = some (.int .i64 (mr : Nat)) := hcA 9 (by omega)
      have x10 : wr.cell? ⟨cI, i * 12 + 10, none⟩ = some (.slice Av n1 cav) := hcA 10 (by omega)
      have x11 : wr.cell? ⟨cI, i * 12 + 11, none⟩ = some (.slice Aw n2 caw) := hcA 11 (by omega)
      have y0 : wr.cell? ⟨cJ, i * 12, none⟩ = some (.int .u64 (sq : Nat)) := by have h9 := hcB 0 (by omega); rw [Nat.add_zero] at h9; exact h9
      have y1 : wr.cell? ⟨cJ, i * 12 + 1, none⟩ = some (.int .i64 (bl : Nat)) := hcB 1 (by omega)
      have y2 : wr.cell? ⟨cJ, i * 12 + 2, none⟩ = some (.int .i64 (sz : Nat)) := hcB 2 (by omega)
      have y3 : wr.cell? ⟨cJ, i * 12 + 3, none⟩ = some (.int .i64 (sl : Nat)) := hcB 3 (by omega)
      have y4 : wr.cell? ⟨cJ, i * 12 + 4, none⟩ = some (.int .u64 (g0 : Nat)) := hcB 4 (by omega)
      have y5 : wr.cell? ⟨cJ, i * 12 + 5, none⟩ = some (.int .u64 (g1 : Nat)) := hcB 5 (by omega)
      have y6 : wr.cell? ⟨cJ, i * 12 + 6, none⟩ = some (.int .u64 (g2 : Nat)) := hcB 6 (by omega)
      have y7 : wr.cell? ⟨cJ, i * 12 + 7, none⟩ = some (.int .u64 (g3 : Nat)) := hcB 7 (by omega)
      have y8 : wr.cell? ⟨cJ, i * 12 + 8, none⟩ = some (.int .u32 (fl : Nat)) := hcB 8 (by omega)
      have y9 : wr.cell? ⟨cJ, i * 12 + 9, none⟩ = some (.int .i64 (mr : Nat)) := hcB 9 (by omega)
      have y10 : wr.cell? ⟨cJ, i * 12 + 10, none⟩ = some (.slice Ay n1 cay) := hcB 10 (by omega)
      have y11 : wr.cell? ⟨cJ, i * 12 + 11, none⟩ = some (.slice Az n2 caz) := hcB 11 (by omega)
      have HSD := Lib.hid hSD
      have HBD := Lib.hid hbd
      have EWD := Lib.hid ewd
      clear hSD hbd ewd hcA hcB hx hy hb
      go_wp2_with fail
      go_still_tail 8, (by kernel_rfl)
      change wpList _ _ _ _ _ wr.drew
      rw [← EWD.out]
      go_wp2_with fail
      refine HSD.out.mono ?_
      rintro e w2 ⟨rfl, hb2⟩
      have HREL := Lib.hid (HBD.out.trans ⟨hb2.os, hb2.tape, hb2.output, hb2.size, fun b hb => hb2.block b (by have := HBD.out.size; omega)⟩)
      clear hb2
      go_wp2_with fail
      go_roundw
      case rel => exact ⟨i + 1, by go_num, by omega, HREL.out⟩
      case measure => simp [intOf]; omega
    · obtain rfl : N = i := by omega
      have di : decide (N < N) = false := decide_eq_false (by omega)
      have hK1 : BkS B wr p (n + 0) (SL S wr.heap.size L1 0) vW vI LW LI := (HK.out.below hb (Nat.le_refl _)).mono (fun g hg => .inl hg)
      have HST := Lib.hid hK1
      have HB0 := Lib.hid hb
      obtain ⟨w0, ew0⟩ : ∃ z, z = wr := ⟨_, rfl⟩
      rw [← ew0] at HST HB0 ⊢
      have o10 : w0.ownsRow C 31 12 (.slice A1 N c1) N (flatD L1) := by rw [ew0]; exact own_keep2 O1.out (fun g hg => hb.block g (O1.out.lt g hg).2)
      have hd0 : ∀ (j : Nat) (x : Dm × Value × Value), L1[j]? = some x → x.1.bl ≤ 4096 ∧ x.1.slots.length ≤ 16 ∧ DumpIn C w0 x.1 x.2.1 x.2.2 := by
        intro j x hx
        obtain ⟨y, hy⟩ : ∃ y : Dm × Value × Value, L2[j]? = some y := ⟨_, List.getElem?_eq_getElem (by rw [← HL.out]; exact (List.getElem?_eq_some_iff.1 hx).1)⟩
        obtain ⟨_, hbl, hsl, hdi, _, _⟩ := HD.out j x y hx hy
        exact ⟨hbl, hsl, by rw [ew0]; exact hdi.below hb (Nat.le_refl _)⟩
      have O10 := Lib.hid o10
      have HD0 := Lib.hid hd0
      clear hb hK1 ew0 o10 hd0 wr hlt
      go_wp2_with fail
      go_loopw [9] (fun iv wr => ∃ (i : Nat) (vW vI : Value) (LW LI : List Value), iv = .int .i64 (i : Nat) ∧ i ≤ N ∧ BkS B wr p (n + i) (SL S w0.heap.size L1 i) vW vI LW LI ∧ OnlyP (fun b => C ≤ b) w0 wr ∧ wr.ownsRow C 31 12 (.slice A1 N c1) N (flatD L1) ∧ ∀ (j : Nat) (x : Dm × Value × Value), i ≤ j → L1[j]? = some x → DumpIn C wr x.1 x.2.1 x.2.2) (fun iv _ => N - (intOf iv).toNat)
      case atStart => exact ⟨0, vW, vI, LW, LI, rfl, Nat.zero_le _, HST.out, OnlyP.refl _ _, O10.out, fun j x _ hx => (HD0.out j x hx).2.2⟩
      case round =>
        obtain ⟨i, vW, vI, LW, LI, rfl, hi, hk, ho, hrow, hdl⟩ := hrel
        by_cases hlt : i < N
        · have di : decide (i < N) = true := decide_eq_true hlt
          obtain ⟨x, hx⟩ : ∃ x : Dm × Value × Value, L1[i]? = some x := ⟨_, List.getElem?_eq_getElem (by rw [← EN.out]; exact hlt)⟩
          obtain ⟨hbl, hsl, _⟩ := HD0.out i x hx
          have hdi := hdl i x (Nat.le_refl _) hx
          have hnS : ∀ g, OwnD x g → ¬ SL S w0.heap.size L1 i g := by
            intro g hg hc
            have hgl : g < w0.heap.size := by
              have h9 := (HD0.out i x hx).2.2
              rcases hg with h | h
              · exact (h9.1.lt g h).2
              · exact (h9.2.lt g h).2
            rcases hc with h | h | ⟨j, z, hj, hz, h⟩
            · exact (HS.out i x g hx hg).2 h
            · omega
            · exact HSEP.out j i z x g hj hz hx h hg
          have hBw : B ≤ wr.heap.size := Nat.le_trans hB (Nat.le_trans HB0.out.size ho.size)
          have hKP := keep_ok B C wr p (n + i) _ vW vI LW LI x.1 x.2.1 x.2.2 hk (by omega) hdi hbl hsl (fun g hg => hnS g (.inl hg)) (fun g hg => hnS g (.inr hg)) hBw
          have hREL : ∀ e w2, KeepQ B wr p (n + i) (SL S w0.heap.size L1 i) x.2.1 x.2.2 e w2 → e = .returned (.tuple #[]) ∧ ∃ (i' : Nat) (vW vI : Value) (LW LI : List Value), Value.int .i64 ((i : Int) + 1) = .int .i64 (i' : Nat) ∧ i' ≤ N ∧ BkS B w2 p (n + i') (SL S w0.heap.size L1 i') vW vI LW LI ∧ OnlyP (fun b => C ≤ b) w0 w2 ∧ w2.ownsRow C 31 12 (.slice A1 N c1) N (flatD L1) ∧ ∀ (j : Nat) (x : Dm × Value × Value), i' ≤ j → L1[j]? = some x → DumpIn C w2 x.1 x.2.1 x.2.2 := by
            rintro e w2 ⟨he, ho2, vW', vI', LW', LI', hk2⟩
            have hfr : ∀ g, g < wr.heap.size → g < B → ¬ OwnD x g → w2.heap[g]? = wr.heap[g]? := fun g h1 h2 h3 => ho2.block g h1 (fun hc => hc.elim (fun h => by omega) h3)
            refine ⟨he, i + 1, vW', vI', LW', LI', by go_num, by omega, ?_, ho.then (ho2.mono (fun b hb => ?_)), ?_, fun j z hj hz => ?_⟩
            · refine BkS.mono hk2 (fun g hg => ?_)
              rcases hg with h | h | h | h
              · rcases h with h | h | ⟨j, z, hj, hz, h⟩
                · exact .inl h
                · exact .inr (.inl h)
                · exact .inr (.inr ⟨j, z, by omega, hz, h⟩)
              · exact .inr (.inr ⟨i, x, by omega, hx, .inl h⟩)
              · exact .inr (.inr ⟨i, x, by omega, hx, .inr h⟩)
              · exact .inr (.inl (Nat.le_trans ho.size h))
            · rcases hb with h | h | h
              · omega
              · exact (hdi.1.lt b h).1
              · exact (hdi.2.lt b h).1
            · exact own_keep2 hrow (fun g hg => hfr g (hrow.lt g hg).2 (HV1.out g hg) (fun hc => hc.elim (fun h => own_ne hrow hdi.1 (by decide) g hg h) (fun h => own_ne hrow hdi.2 (by decide) g hg h)))
            · have hdz := hdl j z (by omega) hz
              exact hdz.keep (fun g hg => hfr g (hdz.1.lt g hg).2 (HS.out j z g hz (.inl hg)).1 (fun hc => HSEP.out i j x z g (by omega) hx hz hc (.inl hg))) (fun g hg => hfr g (hdz.2.lt g hg).2 (HS.out j z g hz (.inr hg)).1 (fun hc => HSEP.out i j x z g (by omega) hx hz hc (.inr hg)))
          obtain ⟨gA, rfl, hA1, hcA⟩ : ∃ gA : Nat, A1 = some ⟨gA, 0, none⟩ ∧ gA < wr.heap.size ∧ ∀ k, k < 12 → wr.cell? ⟨gA, i * 12 + k, none⟩ = (x.1.arr x.2.1 x.2.2)[k]? := by
            have o1 := hrow
            rw [EN.out] at o1
            obtain ⟨gA, ca, e1, l1, k1⟩ := own_dl o1 hx
            simp only [Value.slice.injEq] at e1
            exact ⟨gA, e1.1, l1, k1⟩
          obtain ⟨Av, cav, ev⟩ := (hdi.rdb).slice
          obtain ⟨Aw, caw, ew⟩ := (hdi.rds).slice
          have HREL := Lib.hid hREL
          rw [ev, ew] at hKP hcA HREL
          unfold Dm.arr at hKP hcA
          obtain ⟨n1, en1⟩ : ∃ z, z = x.1.wl.length := ⟨_, rfl⟩
          obtain ⟨n2, en2⟩ : ∃ z, z = x.1.slots.length := ⟨_, rfl⟩
          rw [← en1, ← en2] at hKP hcA HREL
          obtain ⟨sq, esq⟩ : ∃ z, z = x.1.sq := ⟨_, rfl⟩
          obtain ⟨bl, ebl⟩ : ∃ z, z = x.1.bl := ⟨_, rfl⟩
          obtain ⟨sz, esz⟩ : ∃ z, z = x.1.sz := ⟨_, rfl⟩
          obtain ⟨sl, esl⟩ : ∃ z, z = x.1.sl := ⟨_, rfl⟩
          obtain ⟨g0, eg0⟩ : ∃ z, z = x.1.g0 := ⟨_, rfl⟩
          obtain ⟨g1, eg1⟩ : ∃ z, z = x.1.g1 := ⟨_, rfl⟩
          obtain ⟨g2, eg2⟩ : ∃ z, z = x.1.g2 := ⟨_, rfl⟩
          obtain ⟨g3, eg3⟩ : ∃ z, z = x.1.g3 := ⟨_, rfl⟩
          obtain ⟨fl, efl⟩ : ∃ z, z = x.1.fl := ⟨_, rfl⟩
          obtain ⟨mr, emr⟩ : ∃ z, z = x.1.mr := ⟨_, rfl⟩
          rw [← esq, ← ebl, ← esz, ← esl, ← eg0, ← eg1, ← eg2, ← eg3, ← efl, ← emr] at hKP hcA
          clear esq ebl esz esl eg0 eg1 eg2 eg3 efl emr en1 en2 ev ew hdi hbl hsl hk ho hrow hdl hnS hREL
          have x0 : wr.cell? ⟨gA, i * 12, none⟩ = some (.int .u64 (sq : Nat)) := by have h9 := hcA 0 (by omega); rw [Nat.add_zero] at h9; exact h9
          have x1 : wr.cell? ⟨gA, i * 12 + 1, none⟩ = some (.int .i64 (bl : Nat)) := hcA 1 (by omega)
          have x2 : wr.cell? ⟨gA, i * 12 + 2, none⟩ = some (.int .i64 (sz : Nat)) := hcA 2 (by omega)
          have x3 : wr.cell? ⟨gA, i * 12 + 3, none⟩ = some (.int .i64 (sl : Nat)) := hcA 3 (by omega)
          have x4 : wr.cell? ⟨gA, i * 12 + 4, none⟩ = some (.int .u64 (g0 : Nat)) := hcA 4 (by omega)
          have x5 : wr.cell? ⟨gA, i * 12 + 5, none⟩ = some (.int .u64 (g1 : Nat)) := hcA 5 (by omega)
          have x6 : wr.cell? ⟨gA, i * 12 + 6, none⟩ = some (.int .u64 (g2 : Nat)) := hcA 6 (by omega)
          have x7 : wr.cell? ⟨gA, i * 12 + 7, none⟩ = some (.int .u64 (g3 : Nat)) := hcA 7 (by omega)
          have x8 : wr.cell? ⟨gA, i * 12 + 8, none⟩ = some (.int .u32 (fl : Nat)) := hcA 8 (by omega)
          have x9 : wr.cell? ⟨gA, i * 12 + 9, none⟩ = some (.int .i64 (mr : Nat)) := hcA 9 (by omega)
          have x10 : wr.cell? ⟨gA, i * 12 + 10, none⟩ = some (.slice Av n1 cav) := hcA 10 (by omega)
          have x11 : wr.cell? ⟨gA, i * 12 + 11, none⟩ = some (.slice Aw n2 caw) := hcA 11 (by omega)
          have HKP := Lib.hid hKP
          clear hKP hcA hx
          go_wp2_with fail
          refine HKP.out.mono ?_
          intro e w2 hq
          obtain ⟨rfl, hr⟩ := HREL.out e w2 hq
          have HR := Lib.hid hr
          clear hr hq HREL
          go_wp2_with fail
          go_roundw
          case rel => exact HR.out
          case measure => simp [intOf]; omega
        · obtain rfl : N = i := by omega
          have di : decide (N < N) = false := decide_eq_false (by omega)
          have HKE := Lib.hid (kept_ok B wr p (n + N) _ vW vI LW LI hk (by omega))
          have HEN := Lib.hid (HF.out wr ((OnlyP.ofBelow HB0.out).then ho))
          clear hk ho hrow hdl hlt
          go_wp2_with fail
          refine HKE.out.mono ?_
          rintro e w2 ⟨rfl, rfl⟩
          go_wp2_with fail
          first | exact HEN.out | (go_ret; exact HEN.out)
end Go.Proofs.YtbfebfeliddpnaaDoor
