/- The law MetaUnpacks. -/
import Derived.Test.YtjcinelcocmpnaaUnpB
namespace Go.Proofs.Ytjcinelcocmpnaa
open Go.RowKit
set_option linter.unusedVariables false
set_option linter.unusedSimpArgs false
theorem lw_info39 : (Try.prog.info? 39).map (fun i => (i.zero, i.size, i.bytes)) = some (some (.int .u64 0), 1, 8) := by kernel_rfl
theorem words_rd {B : Nat} {ws : List Int} {w : World} (h : 0 < ws.length → RowA .u64 39 w B ws.length (fun i => ws.getD i 0)) : Rd .u64 w (wordsV B ws) ws := by
  cases ws with
  | nil => exact .inl ⟨rfl, _, _, rfl⟩
  | cons x xs => exact (h (by simp)).rd (x :: xs) _ (Nat.le_refl _) (Nat.le_refl _) (fun i hi => rfl)
theorem grown_refl (w : World) (g : Option Nat) : w.grownBy w g := ⟨rfl, rfl, rfl, Nat.le_refl _, fun _ _ _ => rfl⟩
theorem grown_set {w wr : World} {g : Nat} (h : w.grownBy wr (some g)) (i : Nat) (u : Value) : w.grownBy (wr.setCell ⟨g, i, none⟩ u) (some g) :=
  ⟨h.os, h.tape, h.output, by rw [size_setCell]; exact h.size, fun k hk hne => (Below.heap_setCell _ _ _ _ (fun e => hne (by rw [e]))).trans (h.block k hk hne)⟩
theorem grown_two {a b c : World} {g r : Option Nat} (h : a.grownBy b g) (k : b.grownBy c r) (hr : r = g ∨ r = none ∨ ∃ x, r = some x ∧ a.heap.size ≤ x) : a.grownBy c g :=
  ⟨k.os.trans h.os, k.tape.trans h.tape, k.output.trans h.output, Nat.le_trans h.size k.size, fun i hi hne => (k.block i (Nat.lt_of_lt_of_le hi h.size) (fun e => by
    rcases hr with rfl | rfl | ⟨x, rfl, hx⟩
    · exact hne e
    · simp at e
    · simp only [Option.some.injEq] at e; omega)).trans (h.block i hi hne)⟩
theorem grown_draw {a b : World} {g : Option Nat} (h : a.grownBy b g) (n : Nat) : a.grownBy (b.drewN n) g := ⟨h.os, h.tape, h.output, h.size, h.block⟩
theorem grown_of_below {B : Nat} {a b : World} (h : Below B a b) (hB : a.heap.size ≤ B) (g : Option Nat) : a.grownBy b g := ⟨h.os, h.tape, h.output, h.size, fun k hk _ => h.block k (by omega)⟩
theorem below_of_grown {a b : World} {g B : Nat} (h : a.grownBy b (some g)) (hB : B ≤ a.heap.size) (hg : B ≤ g) : Below B a b := ⟨h.os, h.tape, h.output, h.size, fun k hk => h.block k (by omega) (fun e => by simp only [Option.some.injEq] at e; omega)⟩
theorem given_in {w : World} {l v : Value} {Bg q n : Nat} {V : Nat → Value} {zs : Nat → List Int} {G : Nat → Nat} (h : TouchOk w l v Bg q n V zs G) : BkIn w (.slice (some ⟨Bg, 0, none⟩) n (n + 1)) n (argsV G V zs) zs := by
  obtain ⟨h1, h2, h3, h4, h5, h6⟩ := h
  by_cases hn : n = 0
  · subst hn; exact .inl ⟨rfl, _, _, rfl⟩
  · refine .inr ⟨Bg, 0, n + 1, rfl, by omega, by omega, h4.lt, fun i hi => ⟨?_, ?_⟩⟩
    · rw [Nat.zero_add, h4.cell i (by omega), extG_lt hi]
    · have hc : ∀ i, i < n → Rd .u8 w (V i) (zs i) := by
        rcases h1 with ⟨h0, _⟩ | ⟨g, off, c, e, _, _, _, hh⟩
        · omega
        · exact fun i hi => (hh i hi).2
      exact argV_rd (hc i hi) (h3 i hi)
theorem touch_drew {w : World} {l v : Value} {Bg q n : Nat} {V : Nat → Value} {zs : Nat → List Int} {G : Nat → Nat} (h : TouchOk w l v Bg q n V zs G) (m : Nat) : TouchOk (w.drewN m) l v Bg q n V zs G := h
theorem two_new (W : World) (e : TypeId) (x y : Value) : ∀ j u, [x, y][j]? = some u → (W.alloc (.cells #[x, y] e)).cell? ((⟨W.heap.size, 0, none⟩ : Addr).add j) = some u := by
  intro j u hj
  rw [Go.WideShapes.add_plain, Nat.zero_add, (Blk.new W e #[x, y]).cell]
  simpa using hj
set_option maxHeartbeats 4000000 in
set_option maxRecDepth 100000 in
theorem unpacks_pos (n b : Int) (v : Value) (m : Nat) (V : Nat → Value) (zs : Nat → List Int) (w : World) (hv : BkIn w v m V zs) (hn : m * 24 ≤ 140737488351232) (hm : ∀ i, i < m → (zs i).length ≤ 140737488351232) (er er0 : Int) (lost lost0 : Bool) (ws ws0 : List Int)
    (hws : 0 < ws.length) (hwl : ws.length ≤ 1024)
    (hU : ∀ w v V, BkIn w v m V zs → Calls Try.prog 14 #[.int .i64 n, v, .int .i64 b] w (UnpRes er lost ws w)) (hR : ∀ w v V, BkIn w v m V zs → Calls Try.prog 15 #[.int .i64 n, v, .int .i64 b] w (UnpRes er lost ws w))
    (hU0 : ∀ w v V, BkIn w v 0 V zs → Calls Try.prog 14 #[.int .i64 n, v, .int .i64 b] w (UnpRes er0 lost0 ws0 w)) :
    Calls Try.prog 5 #[.int .i64 n, v, .int .i64 b] w (DoneTrue w) := by
  obtain ⟨i39, hi39, hzz⟩ := Option.map_eq_some_iff.1 lw_info39
  simp only [Prod.mk.injEq] at hzz
  obtain ⟨hi0, hi1, hi2⟩ := hzz
  obtain ⟨a, c, rfl⟩ := hv.slice
  have HU := Lib.hid hU
  have HRR := Lib.hid hR
  have HU0 := Lib.hid hU0
  have HV := Lib.hid hv
  have HM := Lib.hid hm
  have hwm : ws.length ≤ maxLen := by unfold maxLen; omega
  have HWM := Lib.hid hwm
  have hwv : ∀ B, wordsV B ws = .slice (some ⟨B, 0, none⟩) ws.length ws.length := fun B => wordsV_pos hws
  have HWV := Lib.hid hwv
  have hq1 : (er != er) = false := by simp
  have hq2 : (lost != lost) = false := by simp
  have hq3 : (er == er) = true := by simp
  have HWS := hws
  clear hU hR hU0 hv hm hwm hwv hws
  go_enter Try.func5, Try.ntmps5
  go_wp2_with fail
  refine (handBlocks_ok _ m V zs _ HV.out hn HM.out).mono ?_
  rintro e w1 ⟨l, G, rfl, hh⟩
  have HH := Lib.hid hh
  have HV1 := Lib.hid (HV.out.below hh.1)
  have hs1 := hh.1.size
  clear hh
  go_wp2_with fail
  refine (argBlocks_ok _ l m w.heap.size V zs G _ w HV1.out HH.out hn HM.out).mono ?_
  rintro e w2 ⟨rfl, hb2, q, hq, hrow, hlast⟩
  have hT : TouchOk w2 l (.slice a m c) w1.heap.size q m V zs G := by
    refine ⟨HV1.out.below hb2, fun i hi => ?_, fun i hi => (HH.out.2.2 i hi).2.below hb2 (HH.out.2.2 i hi).2.lt, hrow, hlast, ?_⟩
    · obtain ⟨g, cap, e, h1, h2, h3, _, h4⟩ := own_cells HH.out.2.1 (by omega)
      exact ⟨g, cap, e, Nat.lt_of_lt_of_le h2 hb2.size, (hb2.cell h2).trans (by rw [h4 i hi]; simp [hi])⟩
    · rcases HH.out.2.1.2 with ⟨rfl, h0⟩ | ⟨g, cap, cur, rfl, _⟩
      · exact ⟨none, 0, by rw [h0]⟩
      · exact ⟨_, cap, rfl⟩
  have HT2 := Lib.hid hT
  have HB2 := Lib.hid (HH.out.1.trans (hb2.mono hs1))
  have hs2 := hb2.size
  clear hT hb2 hq hrow hlast HH
  go_wp2_with fail
  refine (HU.out _ _ _ (given_in HT2.out)).mono ?_
  rintro e w3 ⟨rfl, hb3, hr3⟩
  rw [HWV.out]
  have HB3 := Lib.hid hb3
  have HR3 := Lib.hid hr3
  have hs3 := hb3.size
  clear hb3 hr3
  go_wp2_with fail
  refine (HU.out _ _ _ (given_in (HT2.out.below HB3.out))).mono ?_
  rintro e w4 ⟨rfl, hb4, hr4⟩
  rw [HWV.out]
  have HB4 := Lib.hid hb4
  have HR4 := Lib.hid hr4
  have hs4 := hb4.size
  clear hb4 hr4
  go_wp2_with fail
  refine (HU0.out _ _ (fun _ => .slice none 0 0) (.inl ⟨rfl, _, _, rfl⟩)).mono ?_
  rintro e w5 ⟨rfl, hb5, hr5⟩
  have HB5 := Lib.hid hb5
  have hs5 := hb5.size
  clear hb5 hr5
  go_wp2_with fail
  have hVw5 := (((HT2.out.below HB3.out).below HB4.out).below HB5.out).1
  refine (HRR.out _ _ _ hVw5).mono ?_
  rintro e w6 ⟨rfl, hb6, hr6⟩
  rw [HWV.out]
  have HB6 := Lib.hid hb6
  have hs6 := hb6.size
  have HT6 := Lib.hid ((((HT2.out.below HB3.out).below HB4.out).below HB5.out).below hb6)
  have HR15 := Lib.hid hr6
  have HR12 := Lib.hid (fun h => (((HR4.out h).below HB5.out (by have := (HR4.out h).lt; omega)).below hb6 (by have := (HR4.out h).lt; omega)))
  have HR9 := Lib.hid (fun h => ((((HR3.out h).below HB4.out (by have := (HR3.out h).lt; omega)).below HB5.out (by have := (HR3.out h).lt; omega)).below hb6 (by have := (HR3.out h).lt; omega)))
  have HB9 := Lib.hid (((HB3.out.trans (HB4.out.mono hs3)).trans (HB5.out.mono (by omega))).trans (hb6.mono (by omega)) : Below w2.heap.size w2 w6)
  have hSS : 0 < ws.length → w2.heap.size < w3.heap.size ∧ w3.heap.size < w4.heap.size ∧ w5.heap.size < w6.heap.size := fun h => ⟨(HR3.out h).lt, (HR4.out h).lt, (hr6 h).lt⟩
  have HSS := Lib.hid hSS
  clear hb6 hr6 hVw5 hSS
  go_wp2_with fail
  rw [← HWV.out, ← HWV.out]
  refine (sameW_ok _ _ ws ws _ (words_rd HR9.out) (words_rd HR15.out) HWM.out HWM.out).mono ?_
  rintro e w7 ⟨m1, rfl, rfl⟩
  rw [decide_eq_true rfl]
  rw [HWV.out, HWV.out]
  go_wp2_with fail
  rw [← HWV.out, ← HWV.out]
  refine (sameW_ok _ _ ws ws _ (show Rd .u64 (w6.drewN m1) _ _ from words_rd HR12.out) (show Rd .u64 (w6.drewN m1) _ _ from words_rd HR15.out) HWM.out HWM.out).mono ?_
  rintro e w7 ⟨m2, rfl, rfl⟩
  rw [decide_eq_true rfl]
  rw [HWV.out, HWV.out]
  go_wp2_with fail
  refine (untouchedBlocks_ok _ _ _ _ _ _ _ _ _ (show TouchOk (w6.drewN (m1 + m2)) _ _ _ _ _ _ _ _ from touch_drew HT6.out _) hn HM.out).mono ?_
  rintro e w7 ⟨m3, rfl, rfl⟩
  go_wp2_with fail
  obtain ⟨w9, ew9, hT9, hR12, hR15, hA9, hB9, hz9⟩ : ∃ w9, w9 = w6.drewN (m1 + m2 + m3) ∧ TouchOk w9 l (.slice a m c) w1.heap.size q m V zs G ∧ (0 < ws.length → RowA .u64 39 w9 w3.heap.size ws.length (fun i => ws.getD i 0)) ∧ (0 < ws.length → RowA .u64 39 w9 w5.heap.size ws.length (fun i => ws.getD i 0)) ∧
      (0 < ws.length → RowA .u64 39 w9 w2.heap.size ws.length (fun i => ws.getD i 0)) ∧ Below w2.heap.size w2 w9 ∧ w9.heap.size = w6.heap.size := ⟨_, rfl, touch_drew HT6.out _, HR12.out, HR15.out, HR9.out, below_drewN HB9.out _, rfl⟩
  rw [← ew9]
  have HT9 := Lib.hid hT9
  have HQ12 := Lib.hid hR12
  have HQ15 := Lib.hid hR15
  have HA9 := Lib.hid hA9
  have HC9 := Lib.hid hB9
  have HZ9 := Lib.hid hz9
  clear ew9 hT9 hR12 hR15 hA9 hB9 hz9
  go_loopw [18] (fun i wr => ∃ k : Nat, k ≤ ws.length ∧ i = .int .i64 k ∧ w9.grownBy wr (some w2.heap.size) ∧ ∃ F, RowA .u64 39 wr w2.heap.size ws.length F) (fun i _ => ws.length - (intOf i).toNat)
  case atStart => exact ⟨0, Nat.zero_le _, rfl, grown_refl _ _, _, HA9.out HWS⟩
  case round =>
    obtain ⟨k, hk, rfl, hg, F, hF⟩ := hrel
    have HG := Lib.hid hg
    have HF := Lib.hid hF
    by_cases hlt : k < ws.length
    · have hc := hF.cell k hlt
      have hf := hF.free k
      clear hg hF
      go_wp2
      go_roundw
      case rel => exact ⟨k + 1, by omega, by go_num, grown_set HG.out _ _, _, HF.out.put k 12345⟩
      case measure => simp [intOf] <;> omega
    · obtain rfl : k = ws.length := by omega
      have hown : wr.ownsRow 0 39 1 (.slice (some ⟨w2.heap.size, 0, none⟩) ws.length ws.length) ws.length ((List.range ws.length).map fun i => Value.int .u64 (F i)) := by
        obtain ⟨cur, h3, h4, h5⟩ := hF
        refine ⟨by simp, .inr ⟨w2.heap.size, ws.length, cur, rfl, Nat.zero_le _, h3, Nat.le_refl _, by unfold maxLen; omega, by omega, ?_⟩⟩
        apply List.ext_getElem?
        intro i
        rw [Nat.mul_one]
        by_cases hi : i < ws.length
        · rw [List.getElem?_take, if_pos hi, Array.getElem?_toList, h5 i hi]; simp [hi]
        · rw [List.getElem?_eq_none (by simp; omega), List.getElem?_eq_none (by simp; omega)]
      have HOWN := Lib.hid hown
      clear hg hF hown
      go_wp2_with (with_reducible refine wpList_append_own _ rfl (.tmp 96) (.tmp 97) 34 rfl 0 39 i39 (.int .u64 0) 1 8 Try.underlying34 hi39 hi0 hi1 hi2 rfl (by decide) _ ws.length _ rfl (HOWN.out.alloc _) ⟨wr.heap.size, 0, none⟩ 2 2 [.int .u64 12345, .int .u64 12345] rfl rfl ?c1 ?c2 ?c3 ?c4 ?c5 ?_)
      case c1 => exact two_new _ _ _ _
      case c2 => intro u hu; simp at hu; rw [hu]; rfl
      case c3 => unfold maxLen; omega
      case c4 => omega
      case c5 => exact Nat.zero_le _
      intro v10 w10 _ hg10 _
      have hgr : w9.grownBy w10 (some w2.heap.size) := grown_two HG.out (grown_alloc hg10 (by have := HG.out.size; have := HSS.out HWS; have := HZ9.out; simp [Value.ownBlock]; omega)) (.inl rfl)
      have HGR := Lib.hid hgr
      clear hgr hg10
      have hsz10 : w9.heap.size ≤ w10.heap.size := HGR.out.size
      have hB10 : Below w2.heap.size w2 w10 := HC9.out.trans (below_of_grown HGR.out (by have := HC9.out.size; omega) (Nat.le_refl _))
      have HT10 := Lib.hid (HT2.out.below hB10)
      have HB10 := Lib.hid hB10
      have hR12 : Rd .u64 w10 (wordsV w3.heap.size ws) ws := words_rd (fun h => (HQ12.out h).keep (HGR.out.block _ (HQ12.out h).lt (by have := HSS.out h; simp; omega)))
      have hR15 : Rd .u64 w10 (wordsV w5.heap.size ws) ws := words_rd (fun h => (HQ15.out h).keep (HGR.out.block _ (HQ15.out h).lt (by have := HSS.out h; simp; omega)))
      have HR12' := Lib.hid hR12
      have HR15' := Lib.hid hR15
      clear hR12 hR15 hB10
      go_wp2_with fail
      refine (HU.out _ _ _ (given_in HT10.out)).mono ?_
      rintro e w11 ⟨rfl, hb11, hr11⟩
      rw [HWV.out]
      have HB11 := Lib.hid hb11
      have HR11 := Lib.hid (words_rd hr11)
      have hsz11 := hb11.size
      clear hb11 hr11
      go_wp2_with fail
      rw [← HWV.out, ← HWV.out]
      refine (sameW_ok _ _ ws ws _ HR11.out (HR15'.out.below HB11.out) HWM.out HWM.out).mono ?_
      rintro e w12 ⟨m4, rfl, rfl⟩
      rw [decide_eq_true rfl]
      rw [HWV.out, HWV.out]
      go_wp2_with fail
      rw [← HWV.out, ← HWV.out]
      refine (sameW_ok _ _ ws ws _ (HR12'.out.below (below_drewN HB11.out m4)) (HR15'.out.below (below_drewN HB11.out m4)) HWM.out HWM.out).mono ?_
      rintro e w12 ⟨m5, rfl, rfl⟩
      rw [decide_eq_true rfl]
      rw [HWV.out, HWV.out]
      go_wp2_with fail
      refine (untouchedBlocks_ok _ _ _ _ _ _ _ _ _ (show TouchOk (w11.drewN (m4 + m5)) _ _ _ _ _ _ _ _ from touch_drew (HT10.out.below HB11.out) _) hn HM.out).mono ?_
      rintro e w12 ⟨m6, rfl, rfl⟩
      go_wp2_with fail
      go_ret
      exact ⟨rfl, below_drewN (HB2.out.trans ((HB10.out.trans (HB11.out.mono (by have := HB10.out.size; omega))).mono (by have := HB2.out.size; omega))) _⟩
set_option maxHeartbeats 4000000 in
set_option maxRecDepth 100000 in
theorem unpacks_nil (n b : Int) (v : Value) (m : Nat) (V : Nat → Value) (zs : Nat → List Int) (w : World) (hv : BkIn w v m V zs) (hn : m * 24 ≤ 140737488351232) (hm : ∀ i, i < m → (zs i).length ≤ 140737488351232) (er er0 : Int) (lost lost0 : Bool) (ws ws0 : List Int)
    (hws : ws = []) (hwl : ws.length ≤ 1024)
    (hU : ∀ w v V, BkIn w v m V zs → Calls Try.prog 14 #[.int .i64 n, v, .int .i64 b] w (UnpRes er lost ws w)) (hR : ∀ w v V, BkIn w v m V zs → Calls Try.prog 15 #[.int .i64 n, v, .int .i64 b] w (UnpRes er lost ws w))
    (hU0 : ∀ w v V, BkIn w v 0 V zs → Calls Try.prog 14 #[.int .i64 n, v, .int .i64 b] w (UnpRes er0 lost0 ws0 w)) :
    Calls Try.prog 5 #[.int .i64 n, v, .int .i64 b] w (DoneTrue w) := by
  obtain ⟨i39, hi39, hzz⟩ := Option.map_eq_some_iff.1 lw_info39
  simp only [Prod.mk.injEq] at hzz
  obtain ⟨hi0, hi1, hi2⟩ := hzz
  obtain ⟨a, c, rfl⟩ := hv.slice
  have HU := Lib.hid hU
  have HRR := Lib.hid hR
  have HU0 := Lib.hid hU0
  have HV := Lib.hid hv
  have HM := Lib.hid hm
  have hwm : ws.length ≤ maxLen := by unfold maxLen; omega
  have HWM := Lib.hid hwm
  have hwv : ∀ B, wordsV B ws = .slice none 0 0 := fun B => by rw [hws]; rfl
  have HWV := Lib.hid hwv
  have hq1 : (er != er) = false := by simp
  have hq2 : (lost != lost) = false := by simp
  have hq3 : (er == er) = true := by simp
  have HWS := Lib.hid hws
  clear hU hR hU0 hv hm hwm hwv hws
  go_enter Try.func5, Try.ntmps5
  go_wp2_with fail
  refine (handBlocks_ok _ m V zs _ HV.out hn HM.out).mono ?_
  rintro e w1 ⟨l, G, rfl, hh⟩
  have HH := Lib.hid hh
  have HV1 := Lib.hid (HV.out.below hh.1)
  have hs1 := hh.1.size
  clear hh
  go_wp2_with fail
  refine (argBlocks_ok _ l m w.heap.size V zs G _ w HV1.out HH.out hn HM.out).mono ?_
  rintro e w2 ⟨rfl, hb2, q, hq, hrow, hlast⟩
  have hT : TouchOk w2 l (.slice a m c) w1.heap.size q m V zs G := by
    refine ⟨HV1.out.below hb2, fun i hi => ?_, fun i hi => (HH.out.2.2 i hi).2.below hb2 (HH.out.2.2 i hi).2.lt, hrow, hlast, ?_⟩
    · obtain ⟨g, cap, e, h1, h2, h3, _, h4⟩ := own_cells HH.out.2.1 (by omega)
      exact ⟨g, cap, e, Nat.lt_of_lt_of_le h2 hb2.size, (hb2.cell h2).trans (by rw [h4 i hi]; simp [hi])⟩
    · rcases HH.out.2.1.2 with ⟨rfl, h0⟩ | ⟨g, cap, cur, rfl, _⟩
      · exact ⟨none, 0, by rw [h0]⟩
      · exact ⟨_, cap, rfl⟩
  have HT2 := Lib.hid hT
  have HB2 := Lib.hid (HH.out.1.trans (hb2.mono hs1))
  have hs2 := hb2.size
  clear hT hb2 hq hrow hlast HH
  go_wp2_with fail
  refine (HU.out _ _ _ (given_in HT2.out)).mono ?_
  rintro e w3 ⟨rfl, hb3, hr3⟩
  rw [HWV.out]
  have HB3 := Lib.hid hb3
  have HR3 := Lib.hid hr3
  have hs3 := hb3.size
  clear hb3 hr3
  go_wp2_with fail
  refine (HU.out _ _ _ (given_in (HT2.out.below HB3.out))).mono ?_
  rintro e w4 ⟨rfl, hb4, hr4⟩
  rw [HWV.out]
  have HB4 := Lib.hid hb4
  have HR4 := Lib.hid hr4
  have hs4 := hb4.size
  clear hb4 hr4
  go_wp2_with fail
  refine (HU0.out _ _ (fun _ => .slice none 0 0) (.inl ⟨rfl, _, _, rfl⟩)).mono ?_
  rintro e w5 ⟨rfl, hb5, hr5⟩
  have HB5 := Lib.hid hb5
  have hs5 := hb5.size
  clear hb5 hr5
  go_wp2_with fail
  have hVw5 := (((HT2.out.below HB3.out).below HB4.out).below HB5.out).1
  refine (HRR.out _ _ _ hVw5).mono ?_
  rintro e w6 ⟨rfl, hb6, hr6⟩
  rw [HWV.out]
  have HB6 := Lib.hid hb6
  have hs6 := hb6.size
  have HT6 := Lib.hid ((((HT2.out.below HB3.out).below HB4.out).below HB5.out).below hb6)
  have HR15 := Lib.hid hr6
  have HR12 := Lib.hid (fun h => (((HR4.out h).below HB5.out (by have := (HR4.out h).lt; omega)).below hb6 (by have := (HR4.out h).lt; omega)))
  have HR9 := Lib.hid (fun h => ((((HR3.out h).below HB4.out (by have := (HR3.out h).lt; omega)).below HB5.out (by have := (HR3.out h).lt; omega)).below hb6 (by have := (HR3.out h).lt; omega)))
  have HB9 := Lib.hid (((HB3.out.trans (HB4.out.mono hs3)).trans (HB5.out.mono (by omega))).trans (hb6.mono (by omega)) : Below w2.heap.size w2 w6)
  have hSS : 0 < ws.length → w2.heap.size < w3.heap.size ∧ w3.heap.size < w4.heap.size ∧ w5.heap.size < w6.heap.size := fun h => ⟨(HR3.out h).lt, (HR4.out h).lt, (hr6 h).lt⟩
  have HSS := Lib.hid hSS
  clear hb6 hr6 hVw5 hSS
  go_wp2_with fail
  refine (sameW_ok _ _ ws ws _ (.inl ⟨HWS.out, _, _, rfl⟩) (.inl ⟨HWS.out, _, _, rfl⟩) HWM.out HWM.out).mono ?_
  rintro e w7 ⟨m1, rfl, rfl⟩
  rw [decide_eq_true rfl]
  go_wp2_with fail
  refine (sameW_ok _ _ ws ws _ (.inl ⟨HWS.out, _, _, rfl⟩) (.inl ⟨HWS.out, _, _, rfl⟩) HWM.out HWM.out).mono ?_
  rintro e w7 ⟨m2, rfl, rfl⟩
  rw [decide_eq_true rfl]
  go_wp2_with fail
  refine (untouchedBlocks_ok _ _ _ _ _ _ _ _ _ (show TouchOk (w6.drewN (m1 + m2)) _ _ _ _ _ _ _ _ from touch_drew HT6.out _) hn HM.out).mono ?_
  rintro e w7 ⟨m3, rfl, rfl⟩
  go_wp2_with fail
  obtain ⟨w9, ew9, hT9, hR12, hR15, hA9, hB9, hz9⟩ : ∃ w9, w9 = w6.drewN (m1 + m2 + m3) ∧ TouchOk w9 l (.slice a m c) w1.heap.size q m V zs G ∧ (0 < ws.length → RowA .u64 39 w9 w3.heap.size ws.length (fun i => ws.getD i 0)) ∧ (0 < ws.length → RowA .u64 39 w9 w5.heap.size ws.length (fun i => ws.getD i 0)) ∧
      (0 < ws.length → RowA .u64 39 w9 w2.heap.size ws.length (fun i => ws.getD i 0)) ∧ Below w2.heap.size w2 w9 ∧ w9.heap.size = w6.heap.size := ⟨_, rfl, touch_drew HT6.out _, HR12.out, HR15.out, HR9.out, below_drewN HB9.out _, rfl⟩
  rw [← ew9]
  have HT9 := Lib.hid hT9
  have HQ12 := Lib.hid hR12
  have HQ15 := Lib.hid hR15
  have HA9 := Lib.hid hA9
  have HC9 := Lib.hid hB9
  have HZ9 := Lib.hid hz9
  clear ew9 hT9 hR12 hR15 hA9 hB9 hz9
  refine wp_loop_rounds 1 ?_
  rw [rounds_succ]
  go_wp2_with (with_reducible refine wpList_append_own _ rfl (.tmp 96) (.tmp 97) 34 rfl 0 39 i39 (.int .u64 0) 1 8 Try.underlying34 hi39 hi0 hi1 hi2 rfl (by decide) _ 0 _ rfl ((World.ownsRow_nil w9 0 39 1).alloc _) ⟨w9.heap.size, 0, none⟩ 2 2 [.int .u64 12345, .int .u64 12345] rfl rfl ?c1 ?c2 ?c3 ?c4 ?c5 ?_)
  case c1 => exact two_new _ _ _ _
  case c2 => intro u hu; simp at hu; rw [hu]; rfl
  case c3 => unfold maxLen; omega
  case c4 => omega
  case c5 => exact Nat.zero_le _
  intro v10 w10 _ hg10 _
  have hgr : w9.grownBy w10 (some w2.heap.size) := grown_two (grown_refl _ _) (grown_alloc hg10 (by simp [Value.ownBlock])) (.inr (.inl rfl))
  have HGR := Lib.hid hgr
  clear hgr hg10
  have hsz10 : w9.heap.size ≤ w10.heap.size := HGR.out.size
  have hB10 : Below w2.heap.size w2 w10 := HC9.out.trans (below_of_grown HGR.out (by have := HC9.out.size; omega) (Nat.le_refl _))
  have HT10 := Lib.hid (HT2.out.below hB10)
  have HB10 := Lib.hid hB10
  have hR12 : Rd .u64 w10 (wordsV w3.heap.size ws) ws := words_rd (fun h => (HQ12.out h).keep (HGR.out.block _ (HQ12.out h).lt (by have := HSS.out h; simp; omega)))
  have hR15 : Rd .u64 w10 (wordsV w5.heap.size ws) ws := words_rd (fun h => (HQ15.out h).keep (HGR.out.block _ (HQ15.out h).lt (by have := HSS.out h; simp; omega)))
  have HR12' := Lib.hid hR12
  have HR15' := Lib.hid hR15
  clear hR12 hR15 hB10
  go_wp2_with fail
  refine (HU.out _ _ _ (given_in HT10.out)).mono ?_
  rintro e w11 ⟨rfl, hb11, hr11⟩
  rw [HWV.out]
  have HB11 := Lib.hid hb11
  have HR11 := Lib.hid (words_rd hr11)
  have hsz11 := hb11.size
  clear hb11 hr11
  go_wp2_with fail
  refine (sameW_ok _ _ ws ws _ (.inl ⟨HWS.out, _, _, rfl⟩) (.inl ⟨HWS.out, _, _, rfl⟩) HWM.out HWM.out).mono ?_
  rintro e w12 ⟨m4, rfl, rfl⟩
  rw [decide_eq_true rfl]
  go_wp2_with fail
  refine (sameW_ok _ _ ws ws _ (.inl ⟨HWS.out, _, _, rfl⟩) (.inl ⟨HWS.out, _, _, rfl⟩) HWM.out HWM.out).mono ?_
  rintro e w12 ⟨m5, rfl, rfl⟩
  rw [decide_eq_true rfl]
  go_wp2_with fail
  refine (untouchedBlocks_ok _ _ _ _ _ _ _ _ _ (show TouchOk (w11.drewN (m4 + m5)) _ _ _ _ _ _ _ _ from touch_drew (HT10.out.below HB11.out) _) hn HM.out).mono ?_
  rintro e w12 ⟨m6, rfl, rfl⟩
  go_wp2_with fail
  go_ret
  exact ⟨rfl, below_drewN (HB2.out.trans ((HB10.out.trans (HB11.out.mono (by have := HB10.out.size; omega))).mono (by have := HB2.out.size; omega))) _⟩
theorem wf_u8 {x : Int} (h : (Lit.int .u8 x).wf = true) : 0 ≤ x ∧ x < 256 := by
  simp [Lit.wf, IntKind.min, IntKind.max, IntKind.bits, IntKind.signed] at h
  omega
theorem unpacks_law (n b : Int) (v : Value) (m : Nat) (V : Nat → Value) (zs : Nat → List Int) (w : World) (hv : BkIn w v m V zs) (hn : m * 24 ≤ 140737488351232) (hm : ∀ i, i < m → (zs i).length ≤ 140737488351232) (hu : ∀ i, i < m → ∀ x ∈ zs i, 0 ≤ x ∧ x < 256) :
    Calls Try.prog 5 #[.int .i64 n, v, .int .i64 b] w (DoneTrue w) := by
  obtain ⟨er, lost, ws, _, hwl, h14, h15⟩ := unp_both n b m zs hu
  obtain ⟨er0, lost0, ws0, _, _, h140, _⟩ := unp_both n b 0 zs (fun i hi => by omega)
  have h140' : ∀ w v V zs', BkIn w v 0 V zs' → Calls Try.prog 14 #[.int .i64 n, v, .int .i64 b] w (UnpRes er0 lost0 ws0 w) := fun w v V zs' h => h140 w v V (by
    rcases h with h | ⟨_, _, _, _, h, _⟩
    · exact .inl h
    · omega)
  rcases Nat.eq_zero_or_pos ws.length with h | h
  · exact unpacks_nil n b v m V zs w hv hn hm er er0 lost lost0 ws ws0 (List.eq_nil_of_length_eq_zero h) hwl h14 h15 (fun w v V h => h140' w v V zs h)
  · exact unpacks_pos n b v m V zs w hv hn hm er er0 lost lost0 ws ws0 h hwl h14 h15 (fun w v V h => h140' w v V zs h)
end Go.Proofs.Ytjcinelcocmpnaa
