/- A list with many marks behind it: grown. -/
import Derived.Test.YtjcinelcocmpnaaDoorRefK
import Derived.ArgAppend
namespace Go.Proofs.YtjcinelcocmpnaaDoor
open Go.RowKit
set_option linter.unusedVariables false
set_option linter.unusedSimpArgs false
set_option maxHeartbeats 1000000 in
set_option maxRecDepth 100000 in
theorem grown_ok (ao : Option Addr) (xs : List Int) (m : Int) (w : World) (hn : xs.length ≤ 1000000) (h0 : ao = none → xs.length = 0) (hc : ∀ b, ao = some b → ∀ j u, (xs.map (Value.int .u8))[j]? = some u → w.cell? (b.add j) = some u) (hl : ∀ b, ao = some b → ∀ k, (b.add k).block < w.heap.size) :
    Calls Tryd.prog 13 #[.slice ao xs.length xs.length, .int .u8 m] w fun e w' => ∃ u, e = .returned u ∧ PdA (xs.length + 90) (xs ++ List.replicate 90 m) u w w' := by
  obtain ⟨n, en⟩ : ∃ n, n = xs.length := ⟨_, rfl⟩
  rw [← en] at h0 hn ⊢
  obtain ⟨i5, hi5, hz5, hs5, hby5⟩ := pd_info
  have HI5 := Lib.hid hi5
  have HZ5 := Lib.hid hz5
  have HS5 := Lib.hid hs5
  have HBY5 := Lib.hid hby5
  have HC := Lib.hid hc
  have HL := Lib.hid hl
  have H0 := Lib.hid h0
  have EN := Lib.hid en
  clear hi5 hz5 hs5 hby5 hc hl h0 en
  go_enter Tryd.func13, Tryd.ntmps13
  go_wp2_with fail
  go_loopw [0, 5] (fun u i wr => ∃ j : Nat, j ≤ 90 ∧ i = .int .i64 j ∧ ((j = 0 ∧ u = .slice ao n n ∧ wr = w) ∨ (0 < j ∧ PdA (n + j) (xs ++ List.replicate j m) u w wr))) (fun _ i _ => 90 - (intOf i).toNat)
  case atStart => exact ⟨0, by omega, rfl, .inl ⟨rfl, rfl, rfl⟩⟩
  case round =>
    obtain ⟨j, hj, rfl, hP⟩ := hrel
    rcases hP with ⟨rfl, rfl, rfl⟩ | ⟨hj0, hP⟩
    · go_wp2_with (refine wpList_append_grows _ rfl (.tmp 10) (.tmp 12) 28 rfl 5 i5 (.int .u8 0) 1 1 Tryd.underlying28 HI5.out HZ5.out HS5.out HBY5.out rfl (by decide) ao n n (xs.map (Value.int .u8)) rfl ?c0 ?c1 ?c2 ⟨wr.heap.size, 0, none⟩ 1 1 [.int .u8 m] rfl rfl ?c3 ?c4 ?c5 ?c6 ?c7 ?_)
      case c0 => intro h; have := H0.out h; omega
      case c1 => rw [List.length_map, EN.out]; omega
      case c2 => intro b hb k u hk; exact (World.cell?_alloc_lt _ _ _ (HL.out b hb k)).trans (HC.out b hb k u hk)
      case c3 =>
        intro k u hk
        have : k = 0 := by
          rcases k with _ | k
          · rfl
          · simp at hk
        subst this
        simp only [List.getElem?_cons_zero, Option.some.injEq] at hk
        subst hk
        rw [Go.WideShapes.add_plain, Nat.add_zero, (Blk.new wr _ #[Value.int .u8 m]).cell]
        rfl
      case c4 => intro u hu; simp only [List.mem_singleton] at hu; rw [hu]; rfl
      case c5 => omega
      case c6 => unfold maxLen; omega
      case c7 => omega
      intro u1 w1 ho1 hg1
      have hp1 : PdA (n + 1) (xs ++ List.replicate 1 m) u1 wr w1 := by
        refine ⟨by simp [EN.out], ((Below.refl _ _).alloc (Nat.le_refl _) _).grown hg1 (by simp) (fun i hi => by simp at hi), ?_⟩
        have h := ho1
        refine ⟨by simp [EN.out], ?_⟩
        rcases h.2 with ⟨h1, h2⟩ | ⟨g, cap, cur, e, a1, a2, a3, a4, a5, a6⟩
        · omega
        · refine .inr ⟨g, cap, cur, e, by omega, a2, a3, a4, a5, ?_⟩
          rw [a6]; simp
      have HP1 := Lib.hid hp1
      clear ho1 hg1 hp1
      go_wp2
      go_roundw
      case rel => exact ⟨1, by omega, rfl, .inr ⟨by omega, HP1.out⟩⟩
      case measure => simp [intOf]
    · obtain ⟨g, cap, rfl, hg, hcap⟩ := hP.slice (by omega)
      have HP := Lib.hid hP
      obtain ⟨vs, evs⟩ : ∃ vs, vs = (xs ++ List.replicate j m).map (Value.int .u8) := ⟨_, rfl⟩
      have hown := hP.2.2
      rw [← evs] at hown
      have HO := Lib.hid hown
      have EV := Lib.hid evs
      clear hP evs hown
      by_cases hlt : j < 90
      · go_wp2_with (refine app1 rfl (.tmp 10) (.tmp 12) 28 rfl w.heap.size 5 (.int .u8 0) 1 Tryd.underlying28 hd_info5 rfl _ (n + j) vs rfl HO.out (.int .u8 m) 1 rfl rfl ?c1 ?c2 ?c3 ?_)
        case c1 => unfold maxLen; omega
        case c2 => omega
        case c3 => exact HP.out.2.1.size
        intro u3 w3 ho3 hg3
        have hp3 : PdA (n + (j + 1)) (xs ++ List.replicate (j + 1) m) u3 w w3 := by
          rw [EV.out] at ho3
          have := HP.out.grow (l2 := [m]) (M := 1) rfl HP.out.2.1 ho3 hg3
          rw [List.replicate_succ', ← List.append_assoc]
          exact this
        have HP3 := Lib.hid hp3
        clear ho3 hg3 hp3 HP HO EV
        go_wp2
        go_roundw
        case rel => exact ⟨j + 1, by omega, by go_num, .inr ⟨by omega, HP3.out⟩⟩
        case measure => simp [intOf] <;> omega
      · obtain rfl : j = 90 := by omega
        clear HO EV
        go_wp2
        go_ret
        exact ⟨_, rfl, HP.out⟩
end Go.Proofs.YtjcinelcocmpnaaDoor
