/- Seal, the program's and the document's: the law's walk. -/
import Derived.Test.YtjcinelcocmpnaaDoorSelL

namespace Go.Proofs.YtjcinelcocmpnaaDoor
open Go.RowKit
set_option linter.unusedVariables false
set_option linter.unusedSimpArgs false
def Sup.next (s : Sup) : Sup := { s with sq := IntKind.u64.wrap (s.sq + 1) }
theorem kinds_next {s : Sup} (h : Kinds s) : Kinds s.next := by
  refine ⟨?_, h.2⟩
  show 0 ≤ IntKind.u64.wrap (s.sq + 1) ∧ IntKind.u64.wrap (s.sq + 1) < 18446744073709551616
  rw [IntKind.wrap_u64]; omega
/-- Both blocks of the law's own. -/
def TwoB (w : World) (s o : Sup) (wr : World) : Prop := Below w.heap.size w wr ∧ Blk wr w.heap.size 27 s.arr ∧ Blk wr (w.heap.size + 1) 27 o.arr
theorem TwoB.below {w wr w1 : World} {s o : Sup} (h : TwoB w s o wr) (hb : Below wr.heap.size wr w1) : TwoB w s o w1 := ⟨h.1.trans (hb.mono h.1.size), h.2.1.below hb h.2.1.lt, h.2.2.below hb h.2.2.lt⟩
/-- A list that is written full: n bytes f, in block B (where n is 0: nothing is said of B). -/
def LstA (B n : Nat) (ao : Option Addr) (w : World) (f : Nat → Int) : Prop := (ao = none → n = 0) ∧ ∀ a, ao = some a → a = ⟨B, 0, none⟩ ∧ RowA .u8 5 w B n f
theorem AnsP.shape {lo B0 : Nat} {w : World} {v : Value} {xs : List Int} (h : AnsP lo w v xs) (h1 : B0 < w.heap.size) (h2 : B0 ≤ lo) : ∃ ao B, v = .slice ao xs.length xs.length ∧ B0 ≤ B ∧ B < w.heap.size ∧ LstA B xs.length ao w (fun i => xs.getD i 0) := by
  rcases h with ⟨rfl, rfl⟩ | ⟨B, rfl, h0, hB, hr⟩
  · exact ⟨none, B0, rfl, Nat.le_refl _, h1, fun _ => rfl, fun a ha => by simp at ha⟩
  · exact ⟨_, B, rfl, by omega, hr.lt, fun ha => by simp at ha, fun a ha => ⟨by simpa using ha.symm, hr⟩⟩
theorem LstA.below {B n : Nat} {ao : Option Addr} {w w1 : World} {f : Nat → Int} (h : LstA B n ao w f) (hb : Below w.heap.size w w1) : LstA B n ao w1 f := ⟨h.1, fun a ha => ⟨(h.2 a ha).1, (h.2 a ha).2.below hb (h.2 a ha).2.lt⟩⟩
theorem LstA.drewN {B n : Nat} {ao : Option Addr} {w : World} {f : Nat → Int} (h : LstA B n ao w f) (m : Nat) : LstA B n ao (w.drewN m) f := h
theorem LstA.congr {B n : Nat} {ao : Option Addr} {w : World} {f g : Nat → Int} (h : LstA B n ao w f) (hg : ∀ i, i < n → f i = g i) : LstA B n ao w g := ⟨h.1, fun a ha => ⟨(h.2 a ha).1, (h.2 a ha).2.congr hg⟩⟩
set_option maxHeartbeats 1000000 in
set_option maxRecDepth 100000 in
theorem seals_law (ks : List Int) (S : St) (s : Sup) (w : World) (hT : Tab (fun i => ks.getD i 0) S w) (hTR : TabR ks S w) (hks : ks.length = 64) (hk : Kinds s) :
    Calls Tryd.prog 3 #[.agg s.arr] w (DoneT w) := by
  obtain ⟨o, eo⟩ : ∃ o, o = s.next := ⟨_, rfl⟩
  have hko : Kinds o := by rw [eo]; exact kinds_next hk
  obtain ⟨wb, ewb⟩ : ∃ wb, wb = (w.alloc (.cells s.arr 27)).alloc (.cells o.arr 27) := ⟨_, rfl⟩
  have hB : TwoB w s o wb := by
    rw [ewb]
    refine ⟨((Below.refl _ _).alloc (Nat.le_refl _) _).alloc (by simp) _, (Blk.newAt _ _ _ _ rfl).alloc _, ?_⟩
    exact Blk.newAt _ _ _ _ (by simp)
  have hT1 : ∀ w1, Below w.heap.size w w1 → Tab (fun i => ks.getD i 0) S w1 := fun w1 h => hT.belowS h
  have hT2 : ∀ w1, Below w.heap.size w w1 → TabR ks S w1 := fun w1 h => hTR.below h
  have hS : ∀ w1, Below w.heap.size w w1 → Calls Tryd.prog 10 #[.agg s.arr] w1 (SlQ (fun i => ks.getD i 0) S s w1) := fun w1 h => seal_ok _ S s w1 (hT1 w1 h) hk.2.2.2.2.2.1 hk.2.2.2.2.2.2 hk.2.1.1 hk.2.2.1.1 hk.2.2.2.1.1 hk.2.2.2.2.1.1
  have hO : ∀ w1, Below w.heap.size w w1 → Calls Tryd.prog 10 #[.agg o.arr] w1 (SlQ (fun i => ks.getD i 0) S o w1) := fun w1 h => seal_ok _ S o w1 (hT1 w1 h) hko.2.2.2.2.2.1 hko.2.2.2.2.2.2 hko.2.1.1 hko.2.2.1.1 hko.2.2.2.1.1 hko.2.2.2.2.1.1
  have hRS : ∀ w1, Below w.heap.size w w1 → Calls Tryd.prog 11 #[.agg s.arr] w1 (RsQ ks S s w1) := fun w1 h => rseal_ok ks S s w1 (hT2 w1 h) hks hk
  have hRO : ∀ w1, Below w.heap.size w w1 → Calls Tryd.prog 11 #[.agg o.arr] w1 (RsQ ks S o w1) := fun w1 h => rseal_ok ks S o w1 (hT2 w1 h) hks hko
  obtain ⟨xs, exs⟩ : ∃ xs, xs = sealX (fun i => ks.getD i 0) S s := ⟨_, rfl⟩
  obtain ⟨ys, eys⟩ : ∃ ys, ys = sealX (fun i => ks.getD i 0) S o := ⟨_, rfl⟩
  obtain ⟨e0, ee0⟩ : ∃ e, e = sealE s := ⟨_, rfl⟩
  obtain ⟨f0, ef0⟩ : ∃ e, e = sealE o := ⟨_, rfl⟩
  obtain ⟨Q1, eQ1⟩ : ∃ Q, Q = SlQ (fun i => ks.getD i 0) S s := ⟨_, rfl⟩
  obtain ⟨Q2, eQ2⟩ : ∃ Q, Q = SlQ (fun i => ks.getD i 0) S o := ⟨_, rfl⟩
  obtain ⟨Q3, eQ3⟩ : ∃ Q, Q = RsQ ks S s := ⟨_, rfl⟩
  obtain ⟨Q4, eQ4⟩ : ∃ Q, Q = RsQ ks S o := ⟨_, rfl⟩
  have q1 : ∀ w e w', Q1 w e w' → Below w.heap.size w w' ∧ ∃ v, e = .returned (.tuple #[v, .int .i64 e0]) ∧ AnsP w.heap.size w' v xs := by rw [eQ1, exs, ee0]; exact fun _ _ _ h => h.ans
  have q2 : ∀ w e w', Q2 w e w' → Below w.heap.size w w' ∧ ∃ v, e = .returned (.tuple #[v, .int .i64 f0]) ∧ AnsP w.heap.size w' v ys := by rw [eQ2, eys, ef0]; exact fun _ _ _ h => h.ans
  have q3 : ∀ w e w', Q3 w e w' → ∃ v, e = .returned (.tuple #[v, .int .i64 e0]) ∧ PdA xs.length xs v w w' := by rw [eQ3, exs, ee0]; exact fun _ _ _ h => h.ans
  have q4 : ∀ w e w', Q4 w e w' → ∃ v, e = .returned (.tuple #[v, .int .i64 f0]) ∧ PdA ys.length ys v w w' := by rw [eQ4, eys, ef0]; exact fun _ _ _ h => h.ans
  have hxl : xs.length ≤ 1024 := by rw [exs]; exact sealX_le _ _ _
  have hyl : ys.length ≤ 1024 := by rw [eys]; exact sealX_le _ _ _
  rw [← eQ1] at hS
  rw [← eQ2] at hO
  rw [← eQ3] at hRS
  rw [← eQ4] at hRO
  obtain ⟨sq, bl, sz, sl, cu, bm, o1, o2, fl, mr⟩ := s
  obtain ⟨y, ey⟩ : ∃ y, y = IntKind.u64.wrap (sq + 1) := ⟨_, rfl⟩
  obtain rfl : o = ⟨y, bl, sz, sl, cu, bm, o1, o2, fl, mr⟩ := by rw [eo, ey]; rfl
  have HB := Lib.hid hB
  have HEO := Lib.hid eo
  simp only [Sup.arr] at hS hO hRS hRO ewb ⊢
  have EWB := Lib.hid ewb
  have HS := Lib.hid hS
  have HO := Lib.hid hO
  have HRS := Lib.hid hRS
  have HRO := Lib.hid hRO
  have H1 := Lib.hid q1
  have H2 := Lib.hid q2
  have H3 := Lib.hid q3
  have H4 := Lib.hid q4
  have my : IntKind.u64.wrap (sq + 1) = y := ey.symm
  clear hT hTR hks hk eo hko ewb hB hT1 hT2 hS hO hRS hRO q1 q2 q3 q4 exs eys ee0 ef0 eQ1 eQ2 eQ3 eQ4 ey
  go_enter Tryd.func3, Tryd.ntmps3
  go_wp2_with fail
  rw [← EWB.out]
  refine (HS.out _ HB.out.1).mono ?_
  intro e w1 hq1
  obtain ⟨hb1, l, rfl, ha1⟩ := H1.out _ _ _ hq1
  have hB1 := HB.out.below hb1
  obtain ⟨ao, B, el, hBlo, hBhi, hsh⟩ := ha1.shape (B0 := w.heap.size) (by have := hB1.2.1.lt; omega) (by have := HB.out.1.size; omega)
  obtain ⟨n, en⟩ : ∃ n, n = xs.length := ⟨_, rfl⟩
  rw [← en] at el hsh
  subst el
  have HA1 := Lib.hid ha1
  have HSH1 := Lib.hid hsh
  have EN := Lib.hid en
  have HB1 := Lib.hid hB1
  have hz1 : w.heap.size + 1 < w1.heap.size := hB1.2.2.lt
  have b0 := hB1.2.1.cell 0
  have b1 := hB1.2.1.cell 1
  have b2 := hB1.2.1.cell 2
  have b3 := hB1.2.1.cell 3
  have b4 := hB1.2.1.cell 4
  have b5 := hB1.2.1.cell 5
  have b6 := hB1.2.1.cell 6
  have b7 := hB1.2.1.cell 7
  have b8 := hB1.2.1.cell 8
  have b9 := hB1.2.1.cell 9
  simp only [Sup.arr, List.getElem?_toArray, List.getElem?_cons_zero, List.getElem?_cons_succ] at b0 b1 b2 b3 b4 b5 b6 b7 b8 b9
  clear hq1 hb1 ha1 hB1 hsh en
  go_wp2_with fail
  refine (HS.out _ HB1.out.1).mono ?_
  intro e w2 hq2
  obtain ⟨hb2, t, rfl, ha2⟩ := H1.out _ _ _ hq2
  have hB2 := HB1.out.below hb2
  have hA1 := HA1.out.below hb2
  have HA12 := Lib.hid hA1
  have HA2 := Lib.hid ha2
  have HB2 := Lib.hid hB2
  have HBE2 := Lib.hid hb2
  have hz2 : w.heap.size + 1 < w2.heap.size := hB2.2.2.lt
  have hz12 : w1.heap.size ≤ w2.heap.size := hb2.size
  clear b0 b1 b2 b3 b4 b5 b6 b7 b8 b9
  have c0 := hB2.2.2.cell 0
  have c1 := hB2.2.2.cell 1
  have c2 := hB2.2.2.cell 2
  have c3 := hB2.2.2.cell 3
  have c4 := hB2.2.2.cell 4
  have c5 := hB2.2.2.cell 5
  have c6 := hB2.2.2.cell 6
  have c7 := hB2.2.2.cell 7
  have c8 := hB2.2.2.cell 8
  have c9 := hB2.2.2.cell 9
  simp only [Sup.arr, List.getElem?_toArray, List.getElem?_cons_zero, List.getElem?_cons_succ] at c0 c1 c2 c3 c4 c5 c6 c7 c8 c9
  clear hq2 hb2 ha2 hB2 hA1 HA1
  go_wp2_with fail
  refine (HO.out _ HB2.out.1).mono ?_
  intro e w3 hq3
  obtain ⟨hb3, p, rfl, ha3⟩ := H2.out _ _ _ hq3
  have hB3 := HB2.out.below hb3
  have hA1 := HA12.out.below hb3
  have hA2 := HA2.out.below hb3
  have HA13 := Lib.hid hA1
  have HA23 := Lib.hid hA2
  have HA3 := Lib.hid ha3
  have HBE3 := Lib.hid hb3
  have HB3 := Lib.hid hB3
  have hz3 : w.heap.size + 1 < w3.heap.size := hB3.2.2.lt
  have hz23 : w2.heap.size ≤ w3.heap.size := hb3.size
  clear c0 c1 c2 c3 c4 c5 c6 c7 c8 c9
  have b0 := hB3.2.1.cell 0
  have b1 := hB3.2.1.cell 1
  have b2 := hB3.2.1.cell 2
  have b3 := hB3.2.1.cell 3
  have b4 := hB3.2.1.cell 4
  have b5 := hB3.2.1.cell 5
  have b6 := hB3.2.1.cell 6
  have b7 := hB3.2.1.cell 7
  have b8 := hB3.2.1.cell 8
  have b9 := hB3.2.1.cell 9
  simp only [Sup.arr, List.getElem?_toArray, List.getElem?_cons_zero, List.getElem?_cons_succ] at b0 b1 b2 b3 b4 b5 b6 b7 b8 b9
  clear hq3 hb3 ha3 hB3 hA1 hA2 HA12 HA2
  go_wp2_with fail
  refine (HRS.out _ HB3.out.1).mono ?_
  intro e w4 hq4
  obtain ⟨r, rfl, hp4⟩ := H3.out _ _ _ hq4
  have hb4 := hp4.2.1
  have hB4 := HB3.out.below hb4
  have hA1 := HA13.out.below hb4
  have hA2 := HA23.out.below hb4
  have hA3 := HA3.out.below hb4
  have HA14 := Lib.hid hA1
  have HA24 := Lib.hid hA2
  have HA34 := Lib.hid hA3
  have HR4 := Lib.hid hp4.rdo
  have hb4b := Lib.hid hb4
  have HB4 := Lib.hid hB4
  have hz4 : w.heap.size + 1 < w4.heap.size := hB4.2.2.lt
  have hz34 : w3.heap.size ≤ w4.heap.size := hb4.size
  clear b0 b1 b2 b3 b4 b5 b6 b7 b8 b9
  have c0 := hB4.2.2.cell 0
  have c1 := hB4.2.2.cell 1
  have c2 := hB4.2.2.cell 2
  have c3 := hB4.2.2.cell 3
  have c4 := hB4.2.2.cell 4
  have c5 := hB4.2.2.cell 5
  have c6 := hB4.2.2.cell 6
  have c7 := hB4.2.2.cell 7
  have c8 := hB4.2.2.cell 8
  have c9 := hB4.2.2.cell 9
  simp only [Sup.arr, List.getElem?_toArray, List.getElem?_cons_zero, List.getElem?_cons_succ] at c0 c1 c2 c3 c4 c5 c6 c7 c8 c9
  clear hq4 hb4 hp4 hB4 hA1 hA2 hA3 HA13 HA23 HA3
  go_wp2_with fail
  refine (HRO.out _ HB4.out.1).mono ?_
  intro e w5 hq5
  obtain ⟨q, rfl, hp5⟩ := H4.out _ _ _ hq5
  have hb5 := hp5.2.1
  have hl5 : AnsP wb.heap.size w5 (.slice ao n n) xs := HA14.out.below hb5
  have ht5 : RdO w1.heap.size w5 t xs := (HA24.out.below hb5).rdo
  have ho5 : RdO w2.heap.size w5 p ys := (HA34.out.below hb5).rdo
  have hr5 : RdO w3.heap.size w5 r xs := HR4.out.below hb5
  have hq5' : RdO w4.heap.size w5 q ys := hp5.rdo
  have hbx : Below w2.heap.size w2 w5 := HBE3.out.trans ((hb4b.out.trans (hb5.mono hb4b.out.size)).mono HBE3.out.size)
  have hbw5 : Below w.heap.size w w5 := HB4.out.1.trans (hb5.mono HB4.out.1.size)
  have hz45 : w4.heap.size ≤ w5.heap.size := hb5.size
  have hml : xs.length ≤ maxLen := by unfold maxLen; omega
  have hmy : ys.length ≤ maxLen := by unfold maxLen; omega
  have hs1 : ∀ m, Calls Tryd.prog 12 #[.slice ao n n, r] (w5.drewN m) (SameP (w5.drewN m) true) := fun m => by
    have := sameB_ok (.slice ao n n) r xs xs (w5.drewN m) (show Rd .u8 w5 (.slice ao n n) xs from hl5.rdo.1) (show Rd .u8 w5 r xs from hr5.1) hml hml
    rw [decide_eq_true rfl] at this; exact this
  have hs2 : ∀ m, Calls Tryd.prog 12 #[t, r] (w5.drewN m) (SameP (w5.drewN m) true) := fun m => by
    have := sameB_ok t r xs xs (w5.drewN m) (show Rd .u8 w5 t xs from ht5.1) (show Rd .u8 w5 r xs from hr5.1) hml hml
    rw [decide_eq_true rfl] at this; exact this
  have hs3 : ∀ m, Calls Tryd.prog 12 #[p, q] (w5.drewN m) (SameP (w5.drewN m) true) := fun m => by
    have := sameB_ok p q ys ys (w5.drewN m) (show Rd .u8 w5 p ys from ho5.1) (show Rd .u8 w5 q ys from hq5'.1) hmy hmy
    rw [decide_eq_true rfl] at this; exact this
  have HS1 := Lib.hid (show Calls Tryd.prog 12 #[.slice ao n n, r] w5 (SameP w5 true) from hs1 0)
  have HS2 := Lib.hid hs2
  have HS3 := Lib.hid hs3
  have HL5 := Lib.hid hl5
  have HT5 := Lib.hid ht5
  have HO5 := Lib.hid ho5
  have HR5 := Lib.hid hr5
  have HQ5 := Lib.hid hq5'
  have HBW5 := Lib.hid hbw5
  have HBX := Lib.hid hbx
  have te : (e0 != e0) = false := by simp
  clear c0 c1 c2 c3 c4 c5 c6 c7 c8 c9
  clear hb5 hl5 ht5 ho5 hr5 hq5' hbw5 hbx hq5 hp5 hs1 hs2 hs3 hml hmy HA14 HA24 HA34 HR4
  go_wp2_with fail
  refine HS1.out.mono ?_
  rintro e w6 ⟨m1, rfl, rfl⟩
  go_wp2_with fail
  refine (HS2.out _).mono ?_
  rintro e w6 ⟨m2, rfl, rfl⟩
  go_wp2_with fail
  refine (HS3.out _).mono ?_
  rintro e w6 ⟨m3, rfl, rfl⟩
  have hO0 : ∀ m, Only [B] w5 (w5.drewN m) := fun m => (Only.refl _ _).drewN m
  have hL0 : ∀ m, LstA B n ao (w5.drewN m) (fun i => if i < 0 then 94 else xs.getD i 0) := fun m => (HSH1.out.below (HBE2.out.trans ((HBX.out).mono hz12))).drewN m
  have HO0 := Lib.hid hO0
  have HL0 := Lib.hid hL0
  have hn : n ≤ 1024 := by rw [EN.out]; exact hxl
  clear hO0 hL0
  go_wp2_with fail
  go_loopw [14] (fun i wr => ∃ j : Nat, j ≤ n ∧ i = .int .i64 j ∧ Only [B] w5 wr ∧ LstA B n ao wr (fun i => if i < j then 94 else xs.getD i 0)) (fun i _ => n - (intOf i).toNat)
  case atStart => exact ⟨0, by omega, rfl, HO0.out _, HL0.out _⟩
  case round =>
    obtain ⟨j, hj, rfl, hO, hL⟩ := hrel
    have HOW := Lib.hid hO
    have HLW := Lib.hid hL
    by_cases hlt : j < n
    · have hao : ∃ a, ao = some a := by
        rcases ao with _ | a
        · have := hL.1 rfl; omega
        · exact ⟨a, rfl⟩
      obtain ⟨a, ea⟩ := hao
      obtain ⟨rfl, hrow⟩ := hL.2 a ea
      subst ea
      have c0 := hrow.cell j hlt
      have f0 := hrow.free j
      have hnext : LstA B n (some ⟨B, 0, none⟩) (wr.setCell ⟨B, j, none⟩ (.int .u8 94)) (fun i => if i < j + 1 then 94 else xs.getD i 0) := by
        refine ⟨fun h => by simp at h, fun a ha => ⟨by simpa using ha.symm, (hrow.put j 94).congr fun i hi => ?_⟩⟩
        by_cases h1 : i = j
        · rw [if_pos h1, if_pos (by omega)]
        · rw [if_neg h1]
          by_cases h2 : i < j
          · rw [if_pos h2, if_pos (by omega)]
          · rw [if_neg h2, if_neg (by omega)]
      have hon : Only [B] w5 (wr.setCell ⟨B, j, none⟩ (.int .u8 94)) := hO.set (List.mem_singleton.2 rfl) _
      have HN := Lib.hid hnext
      have HON := Lib.hid hon
      clear hrow hnext hon hO hL
      go_wp2_with fail
      go_roundw
      case rel => exact ⟨j + 1, by omega, by go_num, HON.out, HN.out⟩
      case measure => simp [intOf] <;> omega
    · obtain rfl : n = j := by omega
      obtain ⟨w6, ew6⟩ : ∃ w6 : World, w6 = wr := ⟨_, rfl⟩
      subst ew6
      have hrl : (List.replicate n (94 : Int)).length = n := List.length_replicate
      have hgr := grown_ok ao (List.replicate n 94) 94 w6 (by rw [hrl]; omega) (fun h => by rw [hrl]; exact hL.1 h)
        (fun b hb k u hk => by
          obtain ⟨rfl, hrow⟩ := hL.2 b hb
          have hk2 : k < n := by have := (List.getElem?_eq_some_iff.1 hk).1; simpa using this
          rw [Go.WideShapes.add_plain, Nat.zero_add, hrow.cell k hk2, if_pos hk2]
          simpa [hk2] using hk)
        (fun b hb k => by
          obtain ⟨rfl, hrow⟩ := hL.2 b hb
          rw [Go.WideShapes.add_plain]; exact hrow.lt)
      rw [hrl] at hgr
      have HGR := Lib.hid hgr
      clear hgr hL hO HLW
      go_wp2_with fail
      refine HGR.out.mono ?_
      rintro e w7 ⟨u, rfl, hp⟩
      obtain ⟨g, cap, rfl, hg, hcap⟩ := hp.slice (by omega)
      obtain ⟨g', cap', e', _, _, _, _, hcells⟩ := own_cells hp.2.2 (by omega)
      simp only [Value.slice.injEq, Option.some.injEq, Addr.mk.injEq] at e'
      obtain ⟨⟨rfl, _⟩, _⟩ := e'
      have hcl : ∀ k, k < n + 90 → w7.cell? ⟨g, k, none⟩ = some (.int .u8 94) := fun k hk => by
        rw [hcells k hk, show List.replicate n (94 : Int) ++ List.replicate 90 94 = List.replicate (n + 90) 94 from List.replicate_append_replicate]
        simp [hk]
      have ho7 : Only [B] w5 w7 := HOW.out.trans (Only.ofBelow hp.2.1)
      have hbl : Below w.heap.size w w7 := HBW5.out.trans (ho7.below HBW5.out.size (fun x hx => by rw [List.mem_singleton.1 hx]; exact hBlo))
      have hml : xs.length ≤ maxLen := by unfold maxLen; omega
      have hmy : ys.length ≤ maxLen := by unfold maxLen; omega
      have hs2 : Calls Tryd.prog 12 #[t, r] w7 (SameP w7 true) := by
        have := sameB_ok t r xs xs w7 (HT5.out.only ho7 (fun x hx => by rw [List.mem_singleton.1 hx]; exact hBhi)).1 (HR5.out.only ho7 (fun x hx => by rw [List.mem_singleton.1 hx]; omega)).1 hml hml
        rw [decide_eq_true rfl] at this; exact this
      have hs3 : ∀ m, Calls Tryd.prog 12 #[p, q] (w7.drewN m) (SameP (w7.drewN m) true) := fun m => by
        have := sameB_ok p q ys ys (w7.drewN m) (show Rd .u8 w7 p ys from (HO5.out.only ho7 (fun x hx => by rw [List.mem_singleton.1 hx]; omega)).1) (show Rd .u8 w7 q ys from (HQ5.out.only ho7 (fun x hx => by rw [List.mem_singleton.1 hx]; omega)).1) hmy hmy
        rw [decide_eq_true rfl] at this; exact this
      have hfin : ∀ m, DoneT w (.returned (.bool true)) (w7.drewN m) := fun m => ⟨rfl, below_drewN hbl m⟩
      have HS7 := Lib.hid hs2
      have HS8 := Lib.hid hs3
      have HFin := Lib.hid hfin
      have HCL := Lib.hid hcl
      clear hs2 hs3 hfin hcl hcells hp hbl ho7 hml hmy HGR
      go_wp2_with fail
      go_loopw [16] (fun i wr => ∃ j : Nat, j ≤ n + 90 ∧ i = .int .i64 j ∧ w7 = wr) (fun i _ => n + 90 - (intOf i).toNat)
      case atStart => exact ⟨0, by omega, rfl, rfl⟩
      case round =>
        obtain ⟨j, hj, rfl, rfl⟩ := hrel
        by_cases hlt : j < n + 90
        · have c0 := HCL.out j hlt
          go_wp2_with fail
          go_roundw
          case rel => exact ⟨j + 1, by omega, by go_num, by first | rfl | trivial⟩
          case measure => simp [intOf] <;> omega
        · obtain rfl : j = n + 90 := by omega
          go_wp2_with fail
          refine HS7.out.mono ?_
          rintro e w8 ⟨m4, rfl, rfl⟩
          go_wp2_with fail
          refine (HS8.out _).mono ?_
          rintro e w8 ⟨m5, rfl, rfl⟩
          go_wp2_with fail
          go_ret
          exact HFin.out _
end Go.Proofs.YtjcinelcocmpnaaDoor
