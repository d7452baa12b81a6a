/- The cache: look, lay. -/
import Derived.Test.YtgehbfnfhjpjbaaDoorAppW
import Derived.Deep.RegionHeld3
import Derived.Deep.AppendLies
import Derived.Outline
namespace Go.Proofs.YtgehbfnfhjpjbaaDoor
open Go.RowKit
open Go.ChangeMaps
set_option linter.unusedVariables false
set_option linter.unusedSimpArgs false
theorem step_store_I {P : Program} {ops : Array Oper} {o : Oper} {a : Act} {w : World} {K : Act → World → Prop} {Q : Exit → Act → World → Prop} {E : Prop} {k e t : TypeId} (hg : o.guard = none) (m x v : Operand) (hop : o.op = Op.mapUpdate t m x v) (hk : P.underlying k = some (.int .i64)) (ht : P.underlying t = some (.map k e)) (b : Nat) (F : Int → Option Value) (hm : a.eval m = .map (some b)) (h : MapI w b F) (j : Int) (hw : I64 j) (val : Value) (hx : a.eval x = .int .i64 j) (hv : a.eval v = val)
    (hK : ∀ w', MapI w' b (updI F j (some val)) → OneB w w' b → K (a.put o.dst undef) w') : if Region.wanted o (yielded ops a.tmps) = true then Oper.wp P o a w K Q else E := by
  have hw' : Region.wanted o (yielded ops a.tmps) = true := by simp [Region.wanted, hg]
  rw [if_pos hw']
  obtain ⟨w', hrun, r1, r2⟩ := h.store hk ht hw val
  unfold Oper.wp
  simp [execOp, hop, hm, hx, hv, hrun, Result.andThen]
  exact hK w' r1 r2
/-- The cache in the world. -/
structure CacR (w : World) (c mc : Nat) (F : Int → Option Value) : Prop where
  blk : Blk w c 61 #[.map (some mc)]
  map : MapI w mc F
theorem CacR.keep {w w1 : World} {c mc : Nat} {F : Int → Option Value} (h : CacR w c mc F) (h1 : w1.heap[c]? = w.heap[c]?) (h2 : w1.heap[mc]? = w.heap[mc]?) : CacR w1 c mc F := ⟨h1.trans h.blk, h.map.keep h2⟩
theorem CacR.below {w w1 : World} {c mc : Nat} {F : Int → Option Value} (h : CacR w c mc F) (hb : Below w.heap.size w w1) : CacR w1 c mc F := h.keep (hb.block _ h.blk.lt) (hb.block _ h.map.lt)
theorem CacR.look {w : World} {c mc : Nat} {F : Int → Option Value} (h : CacR w c mc F) (k : Nat) (hk : k ≤ 9000000000) : (Instr.lookup 59 (.map (some mc)) (.int .i64 k) false).run Tryd.prog w = .ok ((F k).getD (.slice none 0 0)) w :=
  h.map.look (k := 3) (e := 74) Tryd.underlying3 Tryd.underlying59 (by kernel_rfl) false (i64_nat k hk)
set_option maxHeartbeats 1000000 in
set_option maxRecDepth 100000 in
theorem clook_none (w : World) (c mc k : Nat) (F : Int → Option Value) (h : CacR w c mc F) (hk : k ≤ 8192) (hF : F k = none) :
    Calls Tryd.prog 55 #[.pointer (some ⟨c, 0, none⟩), .int .i64 k] w fun e w' => e = .returned (.tuple #[.slice none 0 0, .int .i64 2]) ∧ w = w' := by
  have hlk := h.look k (by omega)
  rw [hF] at hlk
  simp only [Option.getD_none] at hlk
  have c0 := h.blk.cell 0
  simp only [List.getElem?_toArray, List.getElem?_cons_zero, List.getElem?_cons_succ] at c0
  go_enter Tryd.func55, Tryd.ntmps55
  go_wp2_with fail
  go_ret2
  exact ⟨rfl, rfl⟩
set_option maxHeartbeats 1000000 in
set_option maxRecDepth 100000 in
theorem clook_some (w : World) (c mc k g n cap : Nat) (F : Int → Option Value) (u : Value) (h : CacR w c mc F) (hk : k ≤ 8192) (hF : F k = some (.slice (some ⟨g, 0, none⟩) n cap)) (hn : 0 < n) (hm : n ≤ 100000000000000) (hu : w.cell? ⟨g, n - 1, none⟩ = some u) :
    Calls Tryd.prog 55 #[.pointer (some ⟨c, 0, none⟩), .int .i64 k] w fun e w' => e = .returned (.tuple #[u, .int .i64 0]) ∧ w = w' := by
  have hlk := h.look k (by omega)
  rw [hF] at hlk
  simp only [Option.getD_some] at hlk
  have c0 := h.blk.cell 0
  simp only [List.getElem?_toArray, List.getElem?_cons_zero, List.getElem?_cons_succ] at c0
  have m1 : ((n : Int) == 0) = false := by simp; omega
  have m2 : ((n : Int) - 1).toNat = n - 1 := by omega
  go_enter Tryd.func55, Tryd.ntmps55
  go_wp2_with fail
  go_ret2
  exact ⟨rfl, rfl⟩
theorem info32 : (Tryd.prog.info? 29).map (fun i => (i.zero, i.size, i.bytes)) = some (some (.slice none 0 0), 1, 24) := by kernel_rfl
theorem own_below {w w1 : World} {B : Nat} {e : TypeId} {v : Value} {n : Nat} {xs : List Value} (h : w.ownsRow B e 1 v n xs) (hb : Below w.heap.size w w1) : w1.ownsRow B e 1 v n xs := by
  refine ⟨h.1, ?_⟩
  rcases h.2 with h | ⟨g, cap, cur, e, a1, a2, a3⟩
  · exact .inl h
  · exact .inr ⟨g, cap, cur, e, a1, (hb.block g (Array.getElem?_eq_some_iff.1 a2).1).trans a2, a3⟩
theorem own_lt {w : World} {B : Nat} {e : TypeId} {v : Value} {n : Nat} {xs : List Value} (h : w.ownsRow B e 1 v n xs) (g : Nat) (hg : v.ownBlock = some g) : g < w.heap.size := by
  obtain ⟨cur, hb⟩ := own_block h g hg; exact hb.lt
theorem cac_grown {w w1 w2 : World} {c mc n : Nat} {F : Int → Option Value} {ov : Value} {vs : List Value} (h : CacR w1 c mc F) (hg : w1.grownBy w2 ov.ownBlock) (ho : w.ownsRow 0 29 1 ov n vs) (hc : Blk w c 61 #[.map (some mc)]) (hm : MapI w mc F) : CacR w2 c mc F := by
  refine h.keep (hg.block c h.blk.lt fun e => ?_) (hg.block mc h.map.lt fun e => ?_)
  · obtain ⟨cur, hb⟩ := own_block ho c e.symm
    exact hc.ne_blk hb (by decide) rfl
  · obtain ⟨cur, hb⟩ := own_block ho mc e.symm
    exact hb.ne_map hm rfl
/-- What lay leaves. -/
def ClayQ (w : World) (c mc k : Nat) (F : Int → Option Value) (ov : Value) (n : Nat) (vs : List Value) (xs : List Int) (e : Ending) (w' : World) : Prop :=
  e = .returned (.tuple #[]) ∧ ∃ g cap, w'.ownsRow 0 29 1 (.slice (some ⟨g, 0, none⟩) (n + 1) cap) (n + 1) (vs ++ [.slice (some ⟨w.heap.size, 0, none⟩) xs.length xs.length]) ∧ (ov.ownBlock = some g ∨ w.heap.size ≤ g) ∧ g ≠ w.heap.size ∧
    RowA .u8 5 w' w.heap.size xs.length (fun i => xs.getD i 0) ∧ CacR w' c mc (updI F k (some (.slice (some ⟨g, 0, none⟩) (n + 1) cap))) ∧ OnlyP (fun b => b = mc ∨ some b = ov.ownBlock) w w'
theorem own_keep {w w1 : World} {B : Nat} {e : TypeId} {g n cap : Nat} {xs : List Value} (h : w.ownsRow B e 1 (.slice (some ⟨g, 0, none⟩) n cap) n xs) (hk : w1.heap[g]? = w.heap[g]?) : w1.ownsRow B e 1 (.slice (some ⟨g, 0, none⟩) n cap) n xs := by
  refine ⟨h.1, ?_⟩
  rcases h.2 with ⟨h, _⟩ | ⟨g', cap', cur, e, a1, a2, a3⟩
  · simp at h
  · simp only [Value.slice.injEq, Option.some.injEq, Addr.mk.injEq] at e
    obtain ⟨⟨rfl, _⟩, _, rfl⟩ := e
    exact .inr ⟨g, cap, cur, rfl, a1, hk.trans a2, a3⟩
theorem clay_end {w w1 w2 w3 : World} {c mc k n g cap L : Nat} {F : Int → Option Value} {ov : Value} {vs : List Value} {xs : List Int} (eL : L = xs.length) (h : CacR w c mc F) (hown : w.ownsRow 0 29 1 ov n vs) (hb1 : Below w.heap.size w w1) (hrow1 : RowA .u8 5 w1 w.heap.size L (fun i => xs.getD i 0))
    (ho2 : w2.ownsRow 0 29 1 (.slice (some ⟨g, 0, none⟩) (n + 1) cap) (n + 1) (vs ++ [.slice (some ⟨w.heap.size, 0, none⟩) L L])) (hg2 : (w1.alloc (.cells #[.slice (some ⟨w.heap.size, 0, none⟩) L L] 29)).grownBy w2 ov.ownBlock) (hat : ov.ownBlock = some g ∨ g = w1.heap.size + 1)
    (hc2 : CacR w2 c mc F) (hm3 : MapI w3 mc (updI F k (some (.slice (some ⟨g, 0, none⟩) (n + 1) cap)))) (ho3 : OneB w2 w3 mc) : ClayQ w c mc k F ov n vs xs (.returned (.tuple #[])) w3 := by
  have hml := h.map.lt
  have hlt1 := hrow1.lt
  have hgm : g ≠ mc := by
    obtain ⟨cur, hb⟩ := own_block ho2 g rfl
    exact hb.ne_map hc2.map
  have hog : ∀ b, some b = ov.ownBlock → b < w.heap.size := fun b hb => own_lt hown b hb.symm
  refine ⟨rfl, g, cap, ?_, ?_, ?_, ?_, ⟨(ho3.far (hc2.blk.ne_map hc2.map)).trans hc2.blk, hm3⟩, ?_⟩
  · rw [← eL]; exact own_keep ho2 (ho3.far hgm)
  · rcases hat with h | h
    · exact .inl h
    · right; omega
  · rcases hat with h | h
    · have := hog g h.symm; omega
    · omega
  · rw [← eL]
    refine RowA.keep (w := w1) hrow1 ?_
    refine (ho3.far (by omega)).trans ((hg2.block _ (by simp; omega) fun e => ?_).trans (Below.heap_alloc w1 _ _ hlt1))
    have := hog _ e; omega
  · refine OnlyP.one (w1 := w2) ?_ ho3 (.inl (.inl rfl))
    exact OnlyP.grown ((OnlyP.ofBelow hb1).alloc _) hg2 (fun b hb => .inl (.inr hb.symm))
set_option maxHeartbeats 3000000 in
set_option maxRecDepth 100000 in
theorem clay_ok (w : World) (c mc k : Nat) (F : Int → Option Value) (v : Value) (xs : List Int) (ov : Value) (n : Nat) (vs : List Value) (h : CacR w c mc F) (hk : k ≤ 8192) (hF : (F k).getD (.slice none 0 0) = ov) (hown : w.ownsRow 0 29 1 ov n vs) (hn : (n + 1) * 24 ≤ 200000000000000)
    (hr : Rd .u8 w v xs) (hm : xs.length ≤ 1024) :
    Calls Tryd.prog 54 #[.pointer (some ⟨c, 0, none⟩), .int .i64 k, v] w (ClayQ w c mc k F ov n vs xs) := by
  have hlk : ∀ W : World, CacR W c mc F → (Instr.lookup 59 (.map (some mc)) (.int .i64 k) false).run Tryd.prog W = .ok ov W := fun W hW => by
    have := hW.look k (by omega); rw [hF] at this; exact this
  obtain ⟨i0, hi0, hz0, hz1, hz2⟩ := info_parts info32
  have c0 : w.cell? ⟨c, 0, none⟩ = some (.map (some mc)) := h.blk.cell 0
  have hl0 := hlk w h
  obtain ⟨A, cp, rfl⟩ := hr.slice
  have HR := Lib.hid hr
  have H := Lib.hid h
  have HLK := Lib.hid hlk
  clear hr hlk
  go_enter Tryd.func54, Tryd.ntmps54
  go_wp2_with fail
  have hcd : CacR w.drew c mc F := H.out.keep rfl rfl
  have HCD := Lib.hid hcd
  obtain ⟨L, eL⟩ : ∃ L, L = xs.length := ⟨_, rfl⟩
  have hfr : Calls Tryd.prog 23 #[.slice A L cp] w.drew fun e w' => e = .returned (.slice (some ⟨w.heap.size, 0, none⟩) L L) ∧ Below w.heap.size w w' ∧ RowA .u8 5 w' w.heap.size L (fun i => xs.getD i 0) := by
    rw [eL]
    exact (fresh_ok _ xs w.drew HR.out (by omega)).mono fun e w' ⟨h1, h2, h3⟩ => ⟨h1, ⟨h2.os, h2.tape, h2.output, h2.size, h2.block⟩, h3⟩
  have HFR := Lib.hid hfr
  have HOWN := Lib.hid hown
  have EL := Lib.hid eL
  rw [← eL] at hm ⊢
  clear hcd hfr eL hown
  have hl0d := HLK.out _ HCD.out
  go_region_held3 (fun w' => w'.cell? ⟨c, 0, none⟩ = some (.map (some mc)))
    (first
      | exact HC4.out
      | exact HC3.out.blk.cell 0
      | exact HC2.out.blk.cell 0
      | exact HC1.out.blk.cell 0
      | exact HCD.out.blk.cell 0)
    (first
      | (go_at_call 23; with_reducible refine HFR.out.mono ?_; rintro e w1 ⟨rfl, hb1, hrow1⟩; have HB1 := Lib.hid hb1; have HROW1 := Lib.hid hrow1; have HC1 := Lib.hid (H.out.below HB1.out); have HC2 := Lib.hid (HC1.out.below ((Below.refl _ w1).alloc (Nat.le_refl _) (.cells #[.slice (some ⟨w.heap.size, 0, none⟩) L L] 29))); have hlk1 := HLK.out _ HC1.out; have hlk2 := HLK.out _ HC2.out; clear hb1 hrow1)
      | (refine step_app_wide _ rfl (.tmp 16) (.tmp 19) 74 rfl 0 29 i0 _ Tryd.underlying74 hi0 hz0 hz1 hz2 rfl ov n vs rfl ((own_below HOWN.out HB1.out).alloc _) ⟨w1.heap.size, 0, none⟩ 1 [.slice (some ⟨w.heap.size, 0, none⟩) L L] rfl rfl (World.news_of_block (cs := #[.slice (some ⟨w.heap.size, 0, none⟩) L L]) (t := 29) (fr := (0, 0)) (heap_alloc_new w1 _)) (by simp [Value.oneCell']) hn (by omega) (w1.heap.size + 1) (by simp) ?_; intro g cap w2 ho2 hg2 hat hlt; have HO2 := Lib.hid ho2; have HG2 := Lib.hid hg2; have HAT := Lib.hid hat; have HC3 := Lib.hid (cac_grown HC2.out hg2 HOWN.out H.out.blk H.out.map); clear ho2 hg2 hat; obtain ⟨w3, hrun3, hm3, ho3⟩ := HC3.out.map.store Tryd.underlying3 Tryd.underlying59 (i64_nat k (by omega)) (.slice (some ⟨g, 0, none⟩) (n + 1) cap); have HM3 := Lib.hid hm3; have HO3 := Lib.hid ho3; have HC4 := Lib.hid (show w3.cell? ⟨c, 0, none⟩ = some (.map (some mc)) from (cell_of_heap (HO3.out.far (HC3.out.blk.ne_map HC3.out.map)) 0).trans (HC3.out.blk.cell 0)); clear hm3 ho3))
  all_goals
    go_end0
    exact clay_end EL.out H.out HOWN.out HB1.out HROW1.out HO2.out HG2.out HAT.out HC3.out HM3.out HO3.out
end Go.Proofs.YtgehbfnfhjpjbaaDoor
