/- The padded message, the document's: padded. -/
import Derived.Test.YtjcinelcocmpnaaDoorHandW
import Derived.Test.YtjcinelcocmpnaaDoorShaG
namespace Go.Proofs.YtjcinelcocmpnaaDoor
open Go.RowKit
set_option linter.unusedVariables false
set_option linter.unusedSimpArgs false
theorem pd_info : ∃ i, Tryd.prog.info? 5 = some i ∧ i.zero = some (.int .u8 0) ∧ i.size = 1 ∧ i.bytes = 1 := by
  have h := hd_info5
  obtain ⟨i, hi, hz⟩ := Option.map_eq_some_iff.1 h
  simp only [Prod.mk.injEq] at hz
  exact ⟨i, hi, hz.1, hz.2.1, hz.2.2⟩
/-- The message, padded. -/
def padF (xs : List Int) : List Int := xs ++ padL (xs.length % 64) ++ tailL ((xs.length : Int) * 8)
/-- A list of bytes of one's own. -/
def PdA (N : Nat) (l : List Int) (u : Value) (w wr : World) : Prop := l.length = N ∧ Below w.heap.size w wr ∧ wr.ownsRow w.heap.size 5 1 u N (l.map (Value.int .u8))
theorem PdA.grow {N M : Nat} {l l2 : List Int} {u u' : Value} {w wr w1 w2 : World} (h : PdA N l u w wr) (hM : l2.length = M) (hw : Below w.heap.size w w1) (ho : w2.ownsRow w.heap.size 5 1 u' (N + M) (l.map (Value.int .u8) ++ l2.map (Value.int .u8))) (hg : w1.grownBy w2 u.ownBlock) : PdA (N + M) (l ++ l2) u' w w2 := by
  refine ⟨by rw [List.length_append, h.1, hM], hw.grown hg hw.size (fun i hi => (h.2.2.lt i hi).1), ?_⟩
  rw [List.map_append]
  exact ho
theorem PdA.slice {N : Nat} {l : List Int} {u : Value} {w wr : World} (h : PdA N l u w wr) (hp : 0 < N) : ∃ g cap, u = .slice (some ⟨g, 0, none⟩) N cap ∧ w.heap.size ≤ g ∧ N ≤ cap := by
  obtain ⟨g, cap, e, h1, _, h2, _⟩ := own_cells h.2.2 hp
  exact ⟨g, cap, e, h1, h2⟩
theorem tail_take (B : Int) (q : Nat) (h : q < 8) : (tailL B).take (q + 1) = (tailL B).take q ++ [B / 2 ^ (56 - 8 * q) % 256] := by
  rw [List.take_add_one, List.getElem?_eq_getElem (by rw [tailL_length]; exact h)]
  simp [tailL]
set_option maxHeartbeats 1000000 in
set_option maxRecDepth 100000 in
theorem padded_ok (b off c : Nat) (xs : List Int) (w : World) (hb : b < w.heap.size) (h0 : 0 < xs.length) (hn : xs.length ≤ 4096) (hc : ∀ i, i < xs.length → w.cell? ⟨b, off + i, none⟩ = some (.int .u8 (xs.getD i 0))) :
    Calls Tryd.prog 46 #[.slice (some ⟨b, off, none⟩) xs.length c] w fun e w' => ∃ u, e = .returned u ∧ PdA (padF xs).length (padF xs) u w w' := by
  obtain ⟨n, en⟩ : ∃ n, n = xs.length := ⟨_, rfl⟩
  rw [← en] at h0 hn ⊢
  have HC := Lib.hid hc
  have EN := Lib.hid en
  obtain ⟨i5, hi5, hz5, hs5, hby5⟩ := pd_info
  have HI5 := Lib.hid hi5
  have HZ5 := Lib.hid hz5
  have HS5 := Lib.hid hs5
  have HBY5 := Lib.hid hby5
  clear hc en hi5 hz5 hs5 hby5
  go_enter Tryd.func46, Tryd.ntmps46
  go_wp2_with (with_reducible refine wpList_append_own _ rfl (.tmp 6) (.tmp 7) 28 rfl w.heap.size 5 i5 (.int .u8 0) 1 1 Tryd.underlying28 HI5.out HZ5.out HS5.out HBY5.out rfl (by decide) (.slice (some ⟨w.heap.size, 0, none⟩) 0 0) 0 [] rfl ?c1 ⟨b, off, none⟩ n c (xs.map (Value.int .u8)) rfl ?c2 ?c3 ?c4 ?c5 ?c6 ?c7 ?_)
  case c1 => exact ⟨rfl, .inr ⟨w.heap.size, 0, #[], rfl, Nat.le_refl _, Blk.newAt _ _ _ _ rfl, by omega, by decide, rfl, rfl⟩⟩
  case c2 => rw [List.length_map, ← EN.out]; omega
  case c3 =>
    intro j y hj
    have hj' : j < xs.length := by have := (List.getElem?_eq_some_iff.1 hj).1; simpa using this
    rw [Go.WideShapes.add_plain, World.cell?_alloc_lt _ _ _ hb, HC.out j hj']
    rw [List.getElem?_map, List.getElem?_eq_getElem hj'] at hj
    rw [List.getD_eq_getElem?_getD, List.getElem?_eq_getElem hj']
    exact hj
  case c4 => intro y hy; simp only [List.mem_map] at hy; obtain ⟨z, _, rfl⟩ := hy; rfl
  case c5 => unfold maxLen; omega
  case c6 => omega
  case c7 => simp
  intro u1 w1 ho1 hg1 _
  have hp1 : PdA n xs u1 w w1 := by
    have h0' : PdA 0 [] (.slice (some ⟨w.heap.size, 0, none⟩) 0 0) w (w.alloc (.cells #[] 5)) := ⟨rfl, (Below.refl _ _).alloc (Nat.le_refl _) _, rfl, .inr ⟨w.heap.size, 0, #[], rfl, Nat.le_refl _, Blk.newAt _ _ _ _ rfl, by omega, by decide, rfl, rfl⟩⟩
    have := h0'.grow (l2 := xs) EN.out.symm h0'.2.1 (by rw [Nat.zero_add]; exact ho1) hg1
    simpa using this
  have HP1 := Lib.hid hp1
  clear ho1 hg1 hp1
  go_wp2_with (refine app1 rfl (.tmp 9) (.tmp 10) 28 rfl w.heap.size 5 (.int .u8 0) 1 Tryd.underlying28 hd_info5 rfl _ n _ rfl HP1.out.2.2 (.int .u8 128) 1 rfl rfl ?c1 ?c2 ?c3 ?_)
  case c1 => unfold maxLen; omega
  case c2 => omega
  case c3 => exact HP1.out.2.1.size
  intro u2 w2 ho2 hg2
  have hp2 : PdA (n + 1) (xs ++ [128]) u2 w w2 := HP1.out.grow (l2 := [128]) rfl HP1.out.2.1 ho2 hg2
  have HP2 := Lib.hid hp2
  clear ho2 hg2 hp2 HP1
  go_wp2_with fail
  go_loopw [3] (fun u wr => ∃ j : Nat, j ≤ (119 - n % 64) % 64 ∧ PdA (n + 1 + j) (xs ++ 128 :: List.replicate j 0) u w wr) (fun u _ => match u with | .slice _ m _ => 5000 - m | _ => 0)
  case atStart => exact ⟨0, by omega, HP2.out⟩
  case round =>
    obtain ⟨j, hj, hP⟩ := hrel
    obtain ⟨g, cap, rfl, hg, hcap⟩ := hP.slice (by omega)
    have HP := Lib.hid hP
    obtain ⟨vs, evs⟩ : ∃ vs, vs = (xs ++ 128 :: List.replicate j 0).map (Value.int .u8) := ⟨_, rfl⟩
    have hown := hP.2.2
    rw [← evs] at hown
    have HO := Lib.hid hown
    have EV := Lib.hid evs
    clear hP HP2 evs hown
    by_cases hlt : j < (119 - n % 64) % 64
    · go_wp2_with (refine app1 rfl (.tmp 16) (.tmp 17) 28 rfl w.heap.size 5 (.int .u8 0) 1 Tryd.underlying28 hd_info5 rfl _ (n + 1 + j) vs rfl HO.out (.int .u8 0) 1 rfl rfl ?c1 ?c2 ?c3 ?_)
      case c1 => unfold maxLen; omega
      case c2 => omega
      case c3 => exact HP.out.2.1.size
      intro u3 w3 ho3 hg3
      have hp3 : PdA (n + 1 + (j + 1)) (xs ++ 128 :: List.replicate (j + 1) 0) u3 w w3 := by
        rw [EV.out] at ho3
        have := HP.out.grow (l2 := [0]) (M := 1) rfl HP.out.2.1 ho3 hg3
        rw [List.replicate_succ']
        rw [List.append_assoc, List.cons_append] at this
        exact this
      have HP3 := Lib.hid hp3
      obtain ⟨g3, cap3, e3, _, _⟩ := hp3.slice (by omega)
      clear ho3 hg3 hp3 HP HO EV
      go_wp2
      go_roundw
      case rel => exact ⟨j + 1, by omega, HP3.out⟩
      case measure => rw [e3]; show 5000 - (n + 1 + (j + 1)) < 5000 - (n + 1 + j); omega
    · obtain ⟨kk, ekk⟩ : ∃ kk, kk = (119 - n % 64) % 64 := ⟨_, rfl⟩
      rw [← ekk] at hj hlt
      obtain rfl : j = kk := by omega
      have EK := Lib.hid ekk
      have hjl : j < 64 := by omega
      have tc : (((n : Int) + 1 + (j : Int)) % 64 != 56) = false := by
        rw [bne_eq_false_iff_eq, ekk]; omega
      clear ekk hj hlt HO EV
      go_wp2_with fail
      go_loopw [3, 5] (fun u i wr => ∃ q : Nat, q ≤ 8 ∧ i = .int .i64 (56 - 8 * (q : Int)) ∧ PdA (n + 1 + j + q) (xs ++ 128 :: List.replicate j 0 ++ (tailL ((n : Int) * 8)).take q) u w wr) (fun _ i _ => (intOf i + 8).toNat)
      case atStart => exact ⟨0, by omega, rfl, by simpa using HP.out⟩
      case round =>
        obtain ⟨q, hq, rfl, hP⟩ := hrel
        obtain ⟨g2, cap2, rfl, hg2, hcap2⟩ := hP.slice (by omega)
        clear HP
        have HP := Lib.hid hP
        have key : ∀ (y : Int) (u4 : Value) (w4 : World), y = (n : Int) * 8 / 2 ^ (56 - 8 * q) % 256 → q < 8 → PdA (n + 1 + j + q + 1) ((xs ++ 128 :: List.replicate j 0 ++ (tailL ((n : Int) * 8)).take q) ++ [y]) u4 w w4 → PdA (n + 1 + j + (q + 1)) (xs ++ 128 :: List.replicate j 0 ++ (tailL ((n : Int) * 8)).take (q + 1)) u4 w w4 := by
          intro y u4 w4 hy hq8 h
          rw [tail_take _ _ hq8, ← hy, ← List.append_assoc]
          exact h
        have KEY := Lib.hid key
        obtain ⟨vs, evs⟩ : ∃ vs, vs = (xs ++ 128 :: List.replicate j 0 ++ (tailL ((n : Int) * 8)).take q).map (Value.int .u8) := ⟨_, rfl⟩
        have hown := hP.2.2
        rw [← evs] at hown
        have HO := Lib.hid hown
        have EV := Lib.hid evs
        clear hP key tc evs hown
        by_cases hlt : q < 8
        · have hq8 : q = 0 ∨ q = 1 ∨ q = 2 ∨ q = 3 ∨ q = 4 ∨ q = 5 ∨ q = 6 ∨ q = 7 := by omega
          rcases hq8 with rfl | rfl | rfl | rfl | rfl | rfl | rfl | rfl
          all_goals
            go_wp2_with (refine app1 rfl (.tmp 27) (.tmp 33) 28 rfl w.heap.size 5 (.int .u8 0) 1 Tryd.underlying28 hd_info5 rfl _ _ vs rfl HO.out _ 1 rfl rfl ?c1 ?c2 ?c3 ?_)
            case c1 => unfold maxLen; omega
            case c2 => omega
            case c3 => exact HP.out.2.1.size
            intro u3 w3 ho3 hg3
            rw [EV.out] at ho3
            have hp3 := HP.out.grow (l2 := [_]) (M := 1) rfl HP.out.2.1 ho3 hg3
            have hp4 := KEY.out _ _ _ (by simp; try omega) (by omega) hp3
            have HP3 := Lib.hid hp4
            clear ho3 hg3 hp3 hp4 HP HO EV
            go_wp2
            go_roundw
            case rel => exact ⟨_, by omega, by simp, HP3.out⟩
            case measure => simp [intOf]
        · obtain rfl : q = 8 := by omega
          go_wp2
          go_ret
          refine ⟨_, rfl, ?_⟩
          have e : padF xs = xs ++ 128 :: List.replicate j 0 ++ (tailL ((n : Int) * 8)).take 8 := by
            unfold padF padL
            rw [← EN.out, ← EK.out, List.take_of_length_le (by rw [tailL_length]; omega)]
          have h := HP.out
          rw [← e] at h
          rw [h.1]
          exact h
end Go.Proofs.YtjcinelcocmpnaaDoor
