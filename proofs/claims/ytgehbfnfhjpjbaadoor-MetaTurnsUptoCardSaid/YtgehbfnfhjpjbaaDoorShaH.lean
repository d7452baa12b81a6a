/- What a hash tells: Sum. -/
import Derived.Test.YtgehbfnfhjpjbaaDoorShaG
import Derived.Laws.OwnMore
import Derived.Outline
namespace Go.Proofs.YtgehbfnfhjpjbaaDoor
open Go.RowKit
set_option linter.unusedVariables false
set_option linter.unusedSimpArgs false
theorem hd_info5 : (Tryd.prog.info? 5).map (fun i => (i.zero, i.size, i.bytes)) = some (some (.int .u8 0), 1, 1) := by kernel_rfl
theorem sum_size : (Tryd.prog.info? 67).map (·.size) = some 32 := by kernel_rfl
/-- The first n bytes of a pad. -/
def padN (n : Nat) : List Int := 128 :: List.replicate (n - 1) 0
theorem padN_length (n : Nat) (h : 1 ≤ n) : (padN n).length = n := by simp [padN]; omega
theorem padN_snoc (n : Nat) (h : 1 ≤ n) : (padN n).map (Value.int .u8) ++ [.int .u8 0] = (padN (n + 1)).map (Value.int .u8) := by
  obtain ⟨m, rfl⟩ : ∃ m, n = m + 1 := ⟨n - 1, by omega⟩
  simp [padN, List.replicate_succ']
theorem padL_eq (held : Nat) : padL held = padN ((119 - held) % 64 + 1) := by simp [padL, padN]
/-- The loop of the length's bytes. -/
def TlA (E T t : Nat) (b : Int) (arr : Array Value) (w wr : World) : Prop :=
  Below w.heap.size w wr ∧ Blk wr E 100 arr ∧ (∃ cur, Blk wr w.heap.size 67 cur ∧ cur.size = 32) ∧ RowA .u8 102 wr T 8 (fun j => if j < t then (tailL b).getD j 0 else 0)
theorem TlA.step {E T t : Nat} {b : Int} {arr : Array Value} {w wr : World} (h : TlA E T t b arr w wr) (hE : w.heap.size < E) (hT : E < T) : TlA E T (t + 1) b arr w (wr.setCell ⟨T, t, none⟩ (.int .u8 ((tailL b).getD t 0))) := by
  obtain ⟨g1, g2, ⟨cur, g3, g4⟩, g5⟩ := h
  refine ⟨g1.setCell (show w.heap.size ≤ T by omega) _, g2.far (by simp; omega) _, ⟨cur, g3.far (by simp; omega) _, g4⟩, (g5.put t _).congr (fun j hj => ?_)⟩
  by_cases e : j = t
  · rw [if_pos e, if_pos (by omega), e]
  · rw [if_neg e]
    by_cases e2 : j < t
    · rw [if_pos e2, if_pos (by omega)]
    · rw [if_neg e2, if_neg (by omega)]
/-- The loop of the sum's bytes. -/
def FnA (S t : Nat) (st : St) (w wr : World) : Prop :=
  Below w.heap.size w wr ∧ (∃ cur, Blk wr w.heap.size 67 cur ∧ cur.size = 32) ∧ RowA .u8 67 wr S 32 (fun j => if j < 4 * t then (sumL st).getD j 0 else 0)
theorem FnA.step {S t : Nat} {st : St} {w wr : World} {x : Int} (h : FnA S t st w wr) (hS : w.heap.size < S) (ht : t < 8) (hx : x = st.list.getD t 0) :
    FnA S (t + 1) st w ((((wr.setCell ⟨S, 4 * t, none⟩ (.int .u8 (x / 16777216 % 256))).setCell ⟨S, 4 * t + 1, none⟩ (.int .u8 (x / 65536 % 256))).setCell ⟨S, 4 * t + 2, none⟩ (.int .u8 (x / 256 % 256))).setCell ⟨S, 4 * t + 3, none⟩ (.int .u8 (x % 256))) := by
  obtain ⟨g1, ⟨cur, g3, g4⟩, g5⟩ := h
  have q : w.heap.size ≤ S := by omega
  have q2 : w.heap.size ≠ S := by omega
  refine ⟨(((g1.setCell q _).setCell q _).setCell q _).setCell q _, ⟨cur, (((g3.far q2 _).far q2 _).far q2 _).far q2 _, g4⟩, ((((g5.put _ _).put _ _).put _ _).put _ _).congr (fun j hj => ?_)⟩
  by_cases e3 : j = 4 * t + 3
  · subst e3; rw [if_pos rfl, if_pos (by omega), sumL_at _ _ (by omega), show (4 * t + 3) / 4 = t by omega, show (4 * t + 3) % 4 = 3 by omega, ← hx]; simp
  rw [if_neg e3]
  by_cases e2 : j = 4 * t + 2
  · subst e2; rw [if_pos rfl, if_pos (by omega), sumL_at _ _ (by omega), show (4 * t + 2) / 4 = t by omega, show (4 * t + 2) % 4 = 2 by omega, ← hx]; simp
  rw [if_neg e2]
  by_cases e1 : j = 4 * t + 1
  · subst e1; rw [if_pos rfl, if_pos (by omega), sumL_at _ _ (by omega), show (4 * t + 1) / 4 = t by omega, show (4 * t + 1) % 4 = 1 by omega, ← hx]; simp
  rw [if_neg e1]
  by_cases e0 : j = 4 * t
  · subst e0; rw [if_pos rfl, if_pos (by omega), sumL_at _ _ (by omega), show (4 * t) / 4 = t by omega, show (4 * t) % 4 = 0 by omega, ← hx]; simp
  rw [if_neg e0]
  by_cases e : j < 4 * t
  · rw [if_pos e, if_pos (by omega)]
  · rw [if_neg e, if_neg (by omega)]
/-- The loop of the pad. -/
def SmA (E n : Nat) (arr : Array Value) (w wr : World) (u : Value) : Prop :=
  Below w.heap.size w wr ∧ Blk wr E 100 arr ∧ (∃ cur, Blk wr w.heap.size 67 cur ∧ cur.size = 32) ∧ wr.ownsRow (E + 1) 5 1 u n ((padN n).map (Value.int .u8))
theorem SmA.size {E n : Nat} {arr : Array Value} {w wr : World} {u : Value} (h : SmA E n arr w wr u) : E + 1 ≤ wr.heap.size := h.2.1.lt
theorem SmA.step {E n : Nat} {arr : Array Value} {w wr w2 : World} {u v : Value} (h : SmA E n arr w wr u) (hE : w.heap.size < E) (hn : 1 ≤ n) (h1 : w2.ownsRow (E + 1) 5 1 v (n + 1) ((padN n).map (Value.int .u8) ++ [.int .u8 0])) (h2 : wr.grownBy w2 u.ownBlock) : SmA E (n + 1) arr w w2 v := by
  obtain ⟨g1, g2, ⟨cur, g3, g4⟩, g5⟩ := h
  have ho : ∀ k, u.ownBlock = some k → E + 1 ≤ k := fun k hk => (g5.lt k hk).1
  refine ⟨g1.grown h2 (by have := g1.size; omega) (fun i hi => by have := ho i hi; omega), (h2.block _ g2.lt (fun e => by have := ho _ e.symm; omega)).trans g2, ⟨cur, (h2.block _ g3.lt (fun e => by have := ho _ e.symm; omega)).trans g3, g4⟩, ?_⟩
  rw [← padN_snoc n hn]; exact h1
set_option maxHeartbeats 1000000 in
set_option maxRecDepth 100000 in
theorem sum_ok (K : Nat → Int) (g : Nat) (st : St) (part : List Int) (held : Nat) (cnt : Int) (w : World) (hK : RowG .u32 w 1 64 K)
    (hb : Blk w g 100 (hashL st part held cnt).toArray) (hp : part.length = 64) (hh : held < 64) :
    Calls Tryd.prog 28 #[.pointer (some ⟨g, 0, none⟩)] w fun e w' => e = .returned (aggOf .u8 (sumF K (st, part, held) cnt)) ∧ Below w.heap.size w w' := by
  obtain ⟨arr, ea⟩ : ∃ arr, arr = (hashL st part held cnt).toArray := ⟨_, rfl⟩
  have hl := hashL_length st part held cnt hp
  have hsa : arr.size = 74 := by rw [ea, List.size_toArray, hl]
  have hsz : (Tryd.prog.info? 100).map (·.size) = some arr.size := by rw [hsa]; exact hash_size
  have a72 : arr[72]? = some (.int .i64 held) := by rw [ea, List.getElem?_toArray, hashL_72 _ _ _ _ hp]
  have a73 : arr[73]? = some (.int .u64 cnt) := by rw [ea, List.getElem?_toArray, hashL_73 _ _ _ _ hp]
  have hone : arr.all (·.oneCell') = true := by
    rw [ea]; refine all_oneCell_toArray (fun v hv => ?_)
    simp only [hashL, St.list, List.mem_append, List.mem_map, List.mem_cons, List.not_mem_nil, or_false] at hv
    rcases hv with (⟨x, _, rfl⟩ | ⟨x, _, rfl⟩) | rfl | rfl <;> rfl
  obtain ⟨zc, hzero, hzs⟩ : ∃ zc : Array Value, (∀ w, (zeroValue 100).run Tryd.prog w = .ok (.agg zc) w) ∧ zc.size = 74 :=
    ⟨(List.replicate 8 (Value.int .u32 0) ++ List.replicate 64 (Value.int .u8 0) ++ [Value.int .i64 0, Value.int .u64 0]).toArray, fun w => by kernel_rfl, by kernel_rfl⟩
  obtain ⟨z32, hz32, e32⟩ : ∃ zc : Array Value, (∀ w, (zeroValue 67).run Tryd.prog w = .ok (.agg zc) w) ∧ zc = (List.replicate 32 (Value.int .u8 0)).toArray :=
    ⟨(List.replicate 32 (Value.int .u8 0)).toArray, fun w => by kernel_rfl, rfl⟩
  have hz32c : ∀ i, i < 32 → z32[i]? = some (.int .u8 0) := fun i hi => zero_row (n := 32) (by rw [e32]; rfl) i hi
  have hzs32 : z32.size = 32 := by rw [e32]; rfl
  have Hz32 := Lib.hid hz32c
  clear hz32c e32
  have hzz : zc.size = arr.size := by rw [hzs, hsa]
  rw [← ea] at hb
  have Hb := Lib.hid hb
  have Hsz := Lib.hid hsz
  have Hea := Lib.hid ea
  have HK := Lib.hid hK
  have Hp := Lib.hid hp
  have Hzz := Lib.hid hzz
  have Hone := Lib.hid hone
  have Hzs32 := Lib.hid hzs32
  clear hb hsz ea hK hp hzz hone hl hsa hzs hzs32
  go_enter Tryd.func28, Tryd.ntmps28
  go_wp2_with (first | (with_reducible refine wpList_load_row rfl 100 (.tmp 12) rfl g rfl 100 arr (0, 0) _ (Hb.out.alloc _).out Tryd.underlying100 rfl Hsz.out ?_) | (refine wpList_store_row rfl 100 (.tmp 3) (.tmp 13) rfl (w.heap.size + 1) arr rfl rfl 100 zc (Blk.newAt _ _ _ _ (by simp)) Hsz.out Hzz.out Hone.out ?_; rw [show w.heap.size + 1 = (w.alloc (.cells z32 67)).heap.size from by simp, World.setRow_alloc_new]))
  obtain ⟨L, eL⟩ : ∃ L, L = (119 - held) % 64 + 1 := ⟨_, rfl⟩
  have hL0 : 1 ≤ L := by omega
  have hL1 : L ≤ 64 := by omega
  have hLi : ∀ n, 1 ≤ n → n ≤ L → ((held + n) % 64 = 56 ↔ n = L) := by intro n h1 h2; omega
  have HLi := Lib.hid hLi
  have EL := Lib.hid eL
  clear hLi eL
  go_loopw [5] (fun u wr => ∃ n : Nat, 1 ≤ n ∧ n ≤ L ∧ SmA (w.heap.size + 1) n arr w wr u) (fun u _ => match u with | .slice _ n _ => L - n | _ => 0)
  case atStart =>
    refine ⟨1, by omega, hL0, (((Below.refl _ _).alloc (Nat.le_refl _) _).alloc (by simp) _).alloc (by simp; omega) _, (Blk.newAt _ _ _ _ (by simp)).alloc _, ⟨z32, ((Blk.newAt _ _ _ _ rfl).alloc _).alloc _, Hzs32.out⟩, ?_⟩
    have := World.ownsRow_lit (base := w.heap.size + 1 + 1) (e := 5) (size := 1) ((w.alloc (.cells z32 67)).alloc (.cells arr 100)) #[.int .u8 128] 1 (by simp) (by unfold maxLen; omega) rfl
    simpa [padN] using this
  case round =>
    obtain ⟨n, hn1, hn2, hP⟩ := hrel
    have HP := Lib.hid hP
    have hE := hP.2.1
    have c72 : wr.cell? ⟨w.heap.size + 1, 72, none⟩ = some (.int .i64 held) := by rw [hE.cell]; exact a72
    have hsz2 := hP.size
    obtain ⟨g2, cap, rfl, hg2, hg2', hcap, ⟨cur2, hcur2⟩, hcells⟩ := own_cells hP.2.2.2 (by omega)
    have Hcells := Lib.hid hcells
    have Hcur2 := Lib.hid hcur2
    have HE := Lib.hid hE
    clear hP hE hcells hcur2
    by_cases hlt : n < L
    · have tb : (((held : Int) + (n : Int)) % 64 != 56) = true := by
        rw [bne_iff_ne]; intro e
        have := (HLi.out n hn1 hn2).1 (by omega)
        omega
      go_wp2_with (refine app1 rfl (.tmp 25) (.tmp 26) 29 rfl (w.heap.size + 1 + 1) 5 (.int .u8 0) 1 Tryd.underlying29 hd_info5 rfl _ n _ rfl HP.out.2.2.2 (.int .u8 0) 1 rfl rfl ?c1 ?c2 ?c3 ?_)
      case c1 => unfold maxLen; omega
      case c2 => omega
      case c3 => omega
      intro v2 w2 ho2 hg2
      have hfin := HP.out.step (by omega) hn1 ho2 hg2
      have HF := Lib.hid hfin
      obtain ⟨g3, cap3, rfl, _⟩ := own_cells ho2 (by omega)
      clear hfin ho2 hg2
      go_wp2
      go_roundw
      case rel => exact ⟨n + 1, by omega, by omega, HF.out⟩
      case measure => simp; omega
    · obtain rfl : n = L := by omega
      have tb : (((held : Int) + (n : Int)) % 64 != 56) = false := by
        have := (HLi.out n hn1 hn2).2 rfl
        rw [bne_eq_false_iff_eq]; omega
      have hle := padN_length n hn1
      have hbelow := HP.out.1
      have hres := HP.out.2.2.1
      have hw1 := write_ok K (w.heap.size + 1) st part held cnt (padN n) g2 0 cap (.slice (some ⟨g2, 0, none⟩) n cap) wr (HK.out.below hbelow HK.out.lt) (by have := HK.out.lt; omega) (by rw [← Hea.out]; exact HE.out) Hp.out hh (by rw [hle]; exact hcap) (by omega) (fun i hi => by rw [Nat.zero_add, Hcells.out i (by omega), List.getElem?_map, List.getD_eq_getElem?_getD, List.getElem?_eq_getElem hi]; rfl) (.inl ⟨by omega, by rw [hle]⟩)
      have hinv := feed_inv K (padN n) (st, part, held) Hp.out hh
      obtain ⟨⟨st1, part1, held1⟩, es1⟩ : ∃ s1, s1 = feed K (st, part, held) (padN n) := ⟨_, rfl⟩
      rw [← es1] at hw1 hinv
      obtain ⟨cnt1, ecnt1⟩ : ∃ c, c = (cnt + ((padN n).length : Int)) % 18446744073709551616 := ⟨_, rfl⟩
      rw [← ecnt1] at hw1
      obtain ⟨hp1, hh1⟩ := hinv
      dsimp only at hp1 hh1 hw1
      have HW1 := Lib.hid hw1
      have Hp1 := Lib.hid hp1
      have Es1 := Lib.hid es1
      have Hbelow := Lib.hid hbelow
      have Hres := Lib.hid hres
      obtain ⟨bb, ebb⟩ : ∃ bb, bb = IntKind.u64.wrap (cnt * 8) := ⟨_, rfl⟩
      have Ebb := Lib.hid ebb
      rw [← ebb]
      obtain ⟨z8, hz8, hzs8⟩ : ∃ zc : Array Value, (∀ w, (zeroValue 102).run Tryd.prog w = .ok (.agg zc) w) ∧ zc = (List.replicate 8 (Value.int .u8 0)).toArray :=
        ⟨_, fun w => by kernel_rfl, rfl⟩
      have Hz8 := Lib.hid hzs8
      clear hw1 hp1 es1 hbelow hres hle ebb ecnt1 HE HP Hcells Hcur2 hzero hzs8
      go_wp2_with fail
      refine HW1.out.mono ?_
      rintro e w2 ⟨rfl, hb2, hk2⟩
      have HB2 := Lib.hid hb2
      have HK2 := Lib.hid hk2
      have hs2 : w.heap.size + 1 + 1 ≤ w2.heap.size := by have := hb2.size; have := Hbelow.out.size; have := HK2.out.lt; omega
      have hbw2 : Below w.heap.size w w2 := Hbelow.out.trans (hb2.mono (by omega))
      have hres2 : ∃ cur, Blk w2 w.heap.size 67 cur ∧ cur.size = 32 := by
        obtain ⟨cur, g3, g4⟩ := Hres.out
        exact ⟨cur, g3.below hb2 (by omega), g4⟩
      have HBW2 := Lib.hid hbw2
      have HRES2 := Lib.hid hres2
      clear hb2 hk2 hbw2 hres2 c72
      go_wp2_with fail
      go_loopw [7, 30] (fun _ i wr => ∃ t : Nat, t ≤ 8 ∧ i = .int .i64 t ∧ TlA (w.heap.size + 1) w2.heap.size t bb (hashL st1 part1 held1 cnt1).toArray w wr ∧ wr.heap.size = w2.heap.size + 1) (fun _ i _ => 8 - (intOf i).toNat)
      case atStart =>
        refine ⟨0, by omega, rfl, ⟨HBW2.out.alloc (by omega) _, HK2.out.alloc _, ?_, ?_⟩, by simp⟩
        · obtain ⟨cur, g3, g4⟩ := HRES2.out
          exact ⟨cur, g3.alloc _, g4⟩
        · refine ⟨z8, Blk.newAt _ _ _ _ rfl, by rw [Hz8.out]; rfl, fun i hi => ?_⟩
          rw [zero_row (n := 8) (z := .int .u8 0) (by rw [Hz8.out]; rfl) i hi]; rfl
      case round =>
        obtain ⟨t, ht, rfl, hP, hsz3⟩ := hrel
        have HP := Lib.hid hP
        have Hsz3 := Lib.hid hsz3
        have c0 := hP.2.2.2.cell t
        have f0 := hP.2.2.2.free t
        clear hP hsz3
        by_cases hlt : t < 8
        · have c0' := c0 hlt
          clear c0
          go_wp2_with fail
          go_roundw
          case rel =>
            refine ⟨t + 1, by omega, by go_num, ?_, by rw [size_setCell]; exact Hsz3.out⟩
            rw [← tailL_at bb t hlt]
            exact HP.out.step (by omega) (by omega)
          case measure => simp [intOf] <;> omega
        · obtain rfl : t = 8 := by omega
          have hbelow := HP.out.1
          have hres := HP.out.2.2.1
          have hT := HP.out.2.2.2
          have hE3 := HP.out.2.1
          have hw2 := write_ok K (w.heap.size + 1) st1 part1 held1 cnt1 (tailL bb) w2.heap.size 0 8 (.slice (some ⟨w2.heap.size, 0, none⟩) 8 8) wr (HK.out.below hbelow HK.out.lt) (by have := HK.out.lt; omega) hE3 Hp1.out hh1 (by rw [tailL_length]; omega) (by omega) (fun i hi => by rw [tailL_length] at hi; rw [Nat.zero_add, hT.cell i hi, if_pos hi]) (.inl ⟨by rw [tailL_length]; omega, by rw [tailL_length]⟩)
          obtain ⟨⟨st2, part2, held2⟩, es2⟩ : ∃ s2, s2 = feed K (st1, part1, held1) (tailL bb) := ⟨_, rfl⟩
          rw [← es2] at hw2
          obtain ⟨cnt2, ecnt2⟩ : ∃ c, c = (cnt1 + ((tailL bb).length : Int)) % 18446744073709551616 := ⟨_, rfl⟩
          rw [← ecnt2] at hw2
          have HW2 := Lib.hid hw2
          have Es2 := Lib.hid es2
          have Hbelow3 := Lib.hid hbelow
          have Hres3 := Lib.hid hres
          obtain ⟨wo, rfl⟩ : ∃ wo : World, wo = wr := ⟨_, rfl⟩
          clear hw2 es2 hbelow hres ecnt2 hT hE3 c0 f0
          go_wp2_with fail
          refine HW2.out.mono ?_
          rintro e w3 ⟨rfl, hb3, hk3⟩
          have hs3 : w.heap.size + 1 < w3.heap.size := by have := hb3.size; have := Hsz3.out; omega
          have hbw3 : Below w.heap.size w w3 := Hbelow3.out.trans (hb3.mono (by omega))
          have hres3 : ∃ cur, Blk w3 w.heap.size 67 cur ∧ cur.size = 32 := by
            obtain ⟨cur, g3, g4⟩ := Hres3.out
            exact ⟨cur, g3.below hb3 (by omega), g4⟩
          have HBW3 := Lib.hid hbw3
          have HRES3 := Lib.hid hres3
          have q0 : w3.cell? ⟨w.heap.size + 1, 0, none⟩ = some (.int .u32 st2.a) := by rw [hk3.cell]; rfl
          have q1 : w3.cell? ⟨w.heap.size + 1, 1, none⟩ = some (.int .u32 st2.b) := by rw [hk3.cell]; rfl
          have q2 : w3.cell? ⟨w.heap.size + 1, 2, none⟩ = some (.int .u32 st2.c) := by rw [hk3.cell]; rfl
          have q3 : w3.cell? ⟨w.heap.size + 1, 3, none⟩ = some (.int .u32 st2.d) := by rw [hk3.cell]; rfl
          have q4 : w3.cell? ⟨w.heap.size + 1, 4, none⟩ = some (.int .u32 st2.e) := by rw [hk3.cell]; rfl
          have q5 : w3.cell? ⟨w.heap.size + 1, 5, none⟩ = some (.int .u32 st2.f) := by rw [hk3.cell]; rfl
          have q6 : w3.cell? ⟨w.heap.size + 1, 6, none⟩ = some (.int .u32 st2.g) := by rw [hk3.cell]; rfl
          have q7 : w3.cell? ⟨w.heap.size + 1, 7, none⟩ = some (.int .u32 st2.h) := by rw [hk3.cell]; rfl
          clear hb3 hk3 hbw3 hres3
          go_wp2_with fail
          go_loopw [9, 10, 46] (fun _ _ i wr => ∃ t : Nat, t ≤ 8 ∧ i = .int .i64 t ∧ FnA w3.heap.size t st2 w wr) (fun _ _ i _ => 8 - (intOf i).toNat)
          case atStart =>
            refine ⟨0, by omega, rfl, HBW3.out.alloc (by omega) _, ?_, ?_⟩
            · obtain ⟨cur, g3, g4⟩ := HRES3.out
              exact ⟨cur, g3.alloc _, g4⟩
            · exact ⟨z32, Blk.newAt _ _ _ _ rfl, Hzs32.out, fun i hi => by rw [Hz32.out i hi]; rfl⟩
          case round =>
            obtain ⟨t, ht, rfl, hP⟩ := hrel
            have HP := Lib.hid hP
            by_cases hlt : t < 8
            · have d0 := hP.2.2.cell (4 * t) (by omega)
              have d1 := hP.2.2.cell (4 * t + 1) (by omega)
              have d2 := hP.2.2.cell (4 * t + 2) (by omega)
              have d3 := hP.2.2.cell (4 * t + 3) (by omega)
              have f0 := hP.2.2.free (4 * t)
              have f1 := hP.2.2.free (4 * t + 1)
              have f2 := hP.2.2.free (4 * t + 2)
              have f3 := hP.2.2.free (4 * t + 3)
              have hidx : ∀ w, (Instr.index 96 (.agg #[.int .u32 st2.a, .int .u32 st2.b, .int .u32 st2.c, .int .u32 st2.d, .int .u32 st2.e, .int .u32 st2.f, .int .u32 st2.g, .int .u32 st2.h]) (.int .i64 t)).run Tryd.prog w = .ok (.int .u32 (st2.list.getD t 0)) w := by
                have : t = 0 ∨ t = 1 ∨ t = 2 ∨ t = 3 ∨ t = 4 ∨ t = 5 ∨ t = 6 ∨ t = 7 := by omega
                rcases this with rfl | rfl | rfl | rfl | rfl | rfl | rfl | rfl <;> (intro w; kernel_rfl)
              obtain ⟨x, ex⟩ : ∃ x, x = st2.list.getD t 0 := ⟨_, rfl⟩
              rw [← ex] at hidx
              have Ex := Lib.hid ex
              clear hP ex
              go_wp2_with fail
              go_roundw
              case rel => exact ⟨t + 1, by omega, by go_num, HP.out.step (by omega) hlt Ex.out⟩
              case measure => simp [intOf] <;> omega
            · obtain rfl : t = 8 := by omega
              have hr : RowA .u8 67 wr w3.heap.size (sumL st2).length (fun i => (sumL st2).getD i 0) := by
                rw [sumL_length]; exact hP.2.2.congr (fun i hi => by rw [if_pos (by omega)])
              obtain ⟨ar, ear⟩ : ∃ ar, ar = ((sumL st2).map (Value.int .u8)).toArray := ⟨_, rfl⟩
              have harr := hr.arr
              rw [← ear] at harr
              obtain ⟨cur, hcur1, hcur2⟩ := hP.2.1
              have k1 : (Tryd.prog.info? 67).map (·.size) = some ar.size := by rw [ear]; simp only [List.size_toArray, List.length_map, sumL_length]; exact sum_size
              have k2 : cur.size = ar.size := by rw [hcur2, ear]; simp [sumL_length]
              have k3 : ar.all (·.oneCell') = true := by rw [ear]; exact sh_one _ _
              have hfin : ar = ((sumF K (st, part, held) cnt).map (Value.int .u8)).toArray := by
                rw [ear]; unfold sumF
                have e1 := Es1.out
                have e2 := Es2.out
                have e3 := Ebb.out
                rw [show padL (st, part, held).2.2 = padN n from by rw [padL_eq]; rw [show (119 - (st, part, held).2.2) % 64 + 1 = n from EL.out.symm], ← e1, show cnt * 8 % 18446744073709551616 = bb from by rw [e3]; simp [IntKind.wrap, IntKind.signed, IntKind.bits], ← e2]
              have Harr := Lib.hid harr
              have Hcur := Lib.hid hcur1
              have K1 := Lib.hid k1
              have K2 := Lib.hid k2
              have K3 := Lib.hid k3
              have Hfin := Lib.hid hfin
              have Hbel := Lib.hid hP.1
              clear hP hr ear harr hcur1 hcur2 k1 k2 k3 hfin q0 q1 q2 q3 q4 q5 q6 q7
              go_wp2_with (first | (with_reducible refine wpList_load_row rfl 67 (.tmp 8) rfl _ rfl 67 ar (0, 0) _ Harr.out.out Tryd.underlying67 rfl K1.out ?_) | (with_reducible refine wpList_store_row rfl 67 (.tmp 2) (.tmp 77) rfl _ ar rfl rfl 67 cur Hcur.out.out K1.out K2.out K3.out ?_))
              refine bodyPost_ret (v := .agg ar) (results_cell_row (t := 67) (fr := (0, 0)) rfl _ _ w.heap.size _ _ rfl (Hcur.out.setRow _).out Tryd.underlying67 rfl ?_) rfl ⟨by rw [Hfin.out]; rfl, ?_⟩
              · exact K1.out
              · exact below_setRow Hbel.out (Nat.le_refl _) _
end Go.Proofs.YtgehbfnfhjpjbaaDoor
