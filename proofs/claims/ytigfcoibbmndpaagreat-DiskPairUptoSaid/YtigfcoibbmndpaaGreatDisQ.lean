/- The disk's calls: Counts, Cached. -/
import Derived.Test.YtigfcoibbmndpaaGreatSrt
import Derived.Outline
namespace Go.Proofs.YtigfcoibbmndpaaGreat
open Go.RowKit
open Go.ChangeMaps
set_option linter.unusedVariables false
set_option linter.unusedSimpArgs false
theorem cnt_results (tmps : Array Value) (w : World) (g : Nat) (s : DSt) (hp : tmps.getD 2 undef = .pointer (some ⟨g, 0, none⟩)) (H2 : Blk w g 68 #[.int .i64 s.c0, .int .i64 s.c1, .int .i64 s.c2, .int .i64 s.c3]) : (results Tryz.f48 tmps).run Tryz.prog w = .ok (.agg #[.int .i64 s.c0, .int .i64 s.c1, .int .i64 s.c2, .int .i64 s.c3]) w := by
  have hp' : tmps[2]?.getD undef = .pointer (some ⟨g, 0, none⟩) := by simpa using hp
  have d0 := H2.cell 0
  have d1 := H2.cell 1
  have d2 := H2.cell 2
  have d3 := H2.cell 3
  simp only [List.getElem?_toArray, List.getElem?_cons_zero, List.getElem?_cons_succ] at d0 d1 d2 d3
  simp [results, Tryz.results48, hp', asAddr, go_sem, d0, d1, d2, d3]
set_option maxHeartbeats 1000000 in
set_option maxRecDepth 100000 in
theorem counts_ok (w : World) (d m c : Nat) (s : DSt) (hb : Blk w d 70 (dArr s m c)) :
    Calls Tryz.prog 48 #[.pointer (some ⟨d, 0, none⟩)] w fun e w' => e = .returned (.agg #[.int .i64 s.c0, .int .i64 s.c1, .int .i64 s.c2, .int .i64 s.c3]) ∧ Below w.heap.size w w' := by
  have ha := hb.alloc (.cells #[.int .i64 0, .int .i64 0, .int .i64 0, .int .i64 0] 68)
  have c7 : (w.alloc (.cells #[.int .i64 0, .int .i64 0, .int .i64 0, .int .i64 0] 68)).cell? ⟨d, 7, none⟩ = some (.int .i64 s.c0) := ha.cell 7
  have c8 : (w.alloc (.cells #[.int .i64 0, .int .i64 0, .int .i64 0, .int .i64 0] 68)).cell? ⟨d, 8, none⟩ = some (.int .i64 s.c1) := ha.cell 8
  have c9 : (w.alloc (.cells #[.int .i64 0, .int .i64 0, .int .i64 0, .int .i64 0] 68)).cell? ⟨d, 9, none⟩ = some (.int .i64 s.c2) := ha.cell 9
  have c10 : (w.alloc (.cells #[.int .i64 0, .int .i64 0, .int .i64 0, .int .i64 0] 68)).cell? ⟨d, 10, none⟩ = some (.int .i64 s.c3) := ha.cell 10
  clear hb ha
  go_enter Tryz.func48, Tryz.ntmps48
  go_wp2_with fail
  exact bodyPost_ret (cnt_results _ _ w.heap.size s rfl (Blk.new _ _ _)) rfl ⟨rfl, (Below.refl _ _).alloc (Nat.le_refl _) _⟩
/-- The blocks k below n with P k, in their order. -/
def keysL (P : Nat → Bool) (n : Nat) : List Int := ((List.range n).filter P).map Int.ofNat
theorem keysL_mem (P : Nat → Bool) (n : Nat) (x : Int) : x ∈ keysL P n ↔ ∃ k : Nat, k < n ∧ P k = true ∧ x = k := by
  unfold keysL
  simp only [List.mem_map, List.mem_filter, List.mem_range]
  constructor
  · rintro ⟨k, ⟨h1, h2⟩, rfl⟩; exact ⟨k, h1, h2, rfl⟩
  · rintro ⟨k, h1, h2, rfl⟩; exact ⟨k, ⟨h1, h2⟩, rfl⟩
theorem keysL_lt (P : Nat → Bool) (n : Nat) : (keysL P n).Pairwise (fun a b => a < b) := by
  unfold keysL
  rw [List.pairwise_map]
  refine List.Pairwise.imp ?_ (List.Pairwise.filter P List.pairwise_lt_range)
  intro a b h
  show (a : Int) < (b : Int)
  omega
theorem keysL_nodup (P : Nat → Bool) (n : Nat) : (keysL P n).Nodup := (keysL_lt P n).imp (fun h e => by subst e; exact absurd h (Int.lt_irrefl _))
theorem keysL_len (P : Nat → Bool) (n : Nat) : (keysL P n).length ≤ n := by
  unfold keysL
  rw [List.length_map]
  exact Nat.le_trans (List.length_filter_le _ _) (by simp)
theorem keys_perm {zs : List Int} (P : Nat → Bool) (n : Nat) (hn : zs.Nodup) (hm : ∀ x, x ∈ zs ↔ ∃ k : Nat, k < n ∧ P k = true ∧ x = k) : zs.Perm (keysL P n) :=
  (List.perm_ext_iff_of_nodup hn (keysL_nodup P n)).2 fun x => (hm x).trans (keysL_mem P n x).symm
theorem srt_keys {zs : List Int} (P : Nat → Bool) (n : Nat) (hn : zs.Nodup) (hm : ∀ x, x ∈ zs ↔ ∃ k : Nat, k < n ∧ P k = true ∧ x = k) : srt zs = keysL P n := by
  refine List.Perm.eq_of_pairwise (le := fun a b : Int => decide (a ≤ b) = true) ?_ ?_ ?_ ((List.mergeSort_perm _ _).trans (keys_perm P n hn hm))
  · intro a b _ _ h1 h2; simp only [decide_eq_true_eq] at h1 h2; omega
  · exact List.pairwise_mergeSort (fun a b c h1 h2 => by simp only [decide_eq_true_eq] at *; omega) (fun a b => by simp only [Bool.or_eq_true, decide_eq_true_eq]; omega) zs
  · exact (keysL_lt P n).imp (fun h => by simp only [decide_eq_true_eq]; omega)
def hasC (s : DSt) (k : Nat) : Bool := decide ((s.ca k).length ≠ 0)
def cachedL (s : DSt) : List Int := keysL (hasC s) s.nb
def CachedQ (O : Nat → Prop) (w : World) (d : Nat) (s : DSt) (e : Ending) (w' : World) : Prop :=
  ∃ v, e = .returned v ∧ Rd .i64 w' v (cachedL s) ∧ (∀ b off n c, v = .slice (some ⟨b, off, none⟩) n c → w.heap.size ≤ b) ∧ Below w.heap.size w w'
theorem own_grown {w w1 : World} {B : Nat} {e : TypeId} {v : Value} {n : Nat} {xs : List Value} {row : Option Nat} (h : w.ownsRow B e 1 v n xs) (hg : w.grownBy w1 row) (hne : ∀ g, v.ownBlock = some g → some g ≠ row) : w1.ownsRow B e 1 v n xs := by
  refine ⟨h.1, ?_⟩
  rcases h.2 with h | ⟨g, cap, cur, rfl, a1, a2, a3⟩
  · exact .inl h
  · exact .inr ⟨g, cap, cur, rfl, a1, (hg.block g (Array.getElem?_eq_some_iff.1 a2).1 (hne g rfl)).trans a2, a3⟩
/-- The list under way. -/
def CachR (w : World) (mc : Nat) (F : Int → Option Value) (L : Int → Bool) (n : Nat) (v : Value) (zs : List Int) (wr : World) : Prop :=
  RangeI wr mc w.heap.size F L n ∧ wr.ownsRow (w.heap.size + 1) 3 1 v zs.length (zs.map (Value.int .i64)) ∧ Below w.heap.size w wr ∧ zs.Nodup ∧ ∀ x, x ∈ zs ↔ (F x).isSome = true ∧ L x = false
theorem info_int : (Tryz.prog.info? 3).map (fun i => (i.zero, i.size, i.bytes)) = some (some (.int .i64 0), 1, 8) := by kernel_rfl
theorem car_has {G : Nat → Prop} {w : World} {s : DSt} {F : Int → Option Value} (h : CaR G w s F) (x : Int) : (F x).isSome = true ↔ ∃ k : Nat, k < s.nb ∧ hasC s k = true ∧ x = k := by
  constructor
  · intro hx
    obtain ⟨v, hv⟩ := Option.isSome_iff_exists.1 hx
    obtain ⟨h0, h1, g, cap, vs, _, h2, _⟩ := h.yes x v hv
    exact ⟨x.toNat, by omega, by unfold hasC; exact decide_eq_true (by omega), by omega⟩
  · rintro ⟨k, h1, h2, rfl⟩
    cases hF : F k with
    | some v => rfl
    | none =>
      have := h.no k hF
      unfold hasC at h2
      rw [this] at h2
      simp at h2
set_option maxHeartbeats 4000000 in
set_option maxRecDepth 100000 in
theorem cached_ok (O : Nat → Prop) (w : World) (d : Nat) (s : DSt) (h : DRep O w d s) :
    Calls Tryz.prog 40 #[.pointer (some ⟨d, 0, none⟩)] w (CachedQ O w d s) := by
  obtain ⟨m, c, B, ms, mc, F, G, hx, hO, hl⟩ := h
  obtain ⟨Q, eQ⟩ : ∃ Q, Q = CachedQ O w d s := ⟨_, rfl⟩
  rw [← eQ]
  have hnb2 := hx.wf.nb2
  have c3 : w.cell? ⟨d, 3, none⟩ = some (.pointer (some ⟨c, 0, none⟩)) := hx.blk.cell 3
  have k0 : w.cell? ⟨c, 0, none⟩ = some (.map (some mc)) := hx.cac.blk.cell 0
  have EQ := Lib.hid eQ
  have HX := Lib.hid hx
  clear eQ hx hO hl
  go_enter Tryz.func40, Tryz.ntmps40
  go_wp2_with (at_range; refine wpList_range_I _ rfl (.tmp 11) rfl Tryz.underlying75 mc F rfl HX.out.cac.map ?_; intro w2 n0 hrg0 hal)
  have hsw : CachR w mc F (fun j => (F j).isSome) n0 (.slice none 0 0) [] w2 := by
    obtain ⟨o, rfl⟩ := hal
    refine ⟨hrg0, World.ownsRow_nil _ _ _ _, (Below.refl _ _).alloc (Nat.le_refl _) _, List.nodup_nil, fun x => ?_⟩
    exact ⟨fun h => absurd h (by simp), fun ⟨h1, h2⟩ => by dsimp only at h2; rw [h1] at h2; cases h2⟩
  have HSW := Lib.hid hsw
  clear hsw hrg0 hal c3 k0
  go_frame
  go_loopw [3, 4] (fun u _ wr => ∃ v L n zs, v = u ∧ CachR w mc F L n v zs wr) (fun _ _ wr => wr.rangeLeft mc w.heap.size)
  case atStart => exact ⟨_, _, _, _, rfl, HSW.out⟩
  case round =>
    obtain ⟨v, L, n, zs, rfl, hrg, hown, hbel, hnd, hmem⟩ := hrel
    have HRG := Lib.hid hrg
    have HOWN := Lib.hid hown
    have HBEL := Lib.hid hbel
    have HND := Lib.hid hnd
    have HMEM := Lib.hid hmem
    clear hrg hown hbel hnd hmem HSW
    go_wp2_with (at_next; refine wpList_next_I _ rfl (.tmp 12) rfl mc w.heap.size F L n rfl HRG.out ?_ ?_)
    · intro h0 hl0
      have hmem : ∀ x, x ∈ zs ↔ ∃ k : Nat, k < s.nb ∧ hasC s k = true ∧ x = k := fun x => by
        rw [HMEM.out x, hl0 x]
        exact ⟨fun h => (car_has HX.out.car x).1 h.1, fun h => ⟨(car_has HX.out.car x).2 h, rfl⟩⟩
      have hlen : zs.length ≤ 8192 := by rw [(keys_perm _ _ HND.out hmem).length_eq]; exact Nat.le_trans (keysL_len _ _) hnb2
      have hsrt : srt zs = cachedL s := srt_keys _ _ HND.out hmem
      have hso := sort_ok wr v zs (w.heap.size + 1) HOWN.out (by omega)
      have hfin : ∀ w4, SortQ wr v zs (.returned (.tuple #[])) w4 → Q (.returned v) w4 := fun w4 hq => by
        obtain ⟨_, hr4, hg4⟩ := hq
        rw [EQ.out]
        rw [hsrt] at hr4
        have hlo : ∀ g, v.ownBlock = some g → w.heap.size ≤ g := fun g hg => by have := (HOWN.out.lt g hg).1; omega
        refine ⟨v, rfl, hr4, ?_, ?_⟩
        · rintro b off n c rfl
          rcases HOWN.out.2 with ⟨h, _⟩ | ⟨g, cap, cur, h, hB, _⟩
          · cases h
          · cases h; omega
        · exact ⟨hg4.os.trans HBEL.out.os, hg4.tape.trans HBEL.out.tape, hg4.output.trans HBEL.out.output, Nat.le_trans HBEL.out.size hg4.size, fun b hb => (hg4.block b (by have := HBEL.out.size; omega) (fun e => by have := hlo b e.symm; omega)).trans (HBEL.out.block b hb)⟩
      have HF := Lib.hid hfin
      have HSO := Lib.hid hso
      clear hfin hso hsrt hlen hmem hl0 h0
      go_wp2_with fail
      refine HSO.out.mono ?_
      intro e w4 hq
      obtain rfl := hq.1
      have HQ := Lib.hid (HF.out w4 hq)
      clear hq
      go_wp2_with fail
      first | exact HQ.out | (go_ret; exact HQ.out)
    · intro j u w3 n3 hwj hLj hFj hrg3 hlt3 hg3 hs3 hen3
      have hj : j ∉ zs := fun h => by have := ((HMEM.out j).1 h).2; rw [hLj] at this; cases this
      have hzl : zs.length ≤ 8192 := by
        have hp : zs.length ≤ (keysL (hasC s) s.nb).length := by
          refine List.Nodup.length_le_of_subset HND.out fun x hx => ?_
          exact (keysL_mem _ _ x).2 ((car_has HX.out.car x).1 ((HMEM.out x).1 hx).1)
        exact Nat.le_trans hp (Nat.le_trans (keysL_len _ _) hnb2)
      have hown3 : w3.ownsRow (w.heap.size + 1) 3 1 v zs.length (zs.map (Value.int .i64)) := own_grown HOWN.out hg3 (fun g hg e => by have := (HOWN.out.lt g hg).1; cases e; omega)
      have hbel3 : Below w.heap.size w w3 := ⟨hg3.os.trans HBEL.out.os, hg3.tape.trans HBEL.out.tape, hg3.output.trans HBEL.out.output, Nat.le_trans HBEL.out.size hg3.size, fun b hb => (hg3.block b (by have := HBEL.out.size; omega) (fun e => by cases e; omega)).trans (HBEL.out.block b hb)⟩
      have hend : ∀ v4 w4, w4.ownsRow (w.heap.size + 1) 3 1 v4 (zs.length + 1) (zs.map (Value.int .i64) ++ [.int .i64 j]) → w3.grownBy w4 v.ownBlock → CachR w mc F (fun i => L i && !decide (i = j)) n3 v4 (zs ++ [j]) w4 ∧ w4.rangeLeft mc w.heap.size < wr.rangeLeft mc w.heap.size := fun v4 w4 ho4 hg4 => by
        have hlo : ∀ g, v.ownBlock = some g → w.heap.size < g := fun g hg => by have := (HOWN.out.lt g hg).1; omega
        have hmcl := HX.out.cac.map.lt
        have hrg4 : RangeI w4 mc w.heap.size F (fun i => L i && !decide (i = j)) n3 := hrg3.keep (hg4.block mc (by have := hbel3.size; omega) (fun e => by have := hlo mc e.symm; omega)) (hg4.block w.heap.size hrg3.lt (fun e => by have := hlo _ e.symm; omega))
        refine ⟨⟨hrg4, by simpa using ho4, ?_, ?_, ?_⟩, ?_⟩
        · exact ⟨hg4.os.trans hbel3.os, hg4.tape.trans hbel3.tape, hg4.output.trans hbel3.output, Nat.le_trans hbel3.size hg4.size, fun b hb => (hg4.block b (by have := hbel3.size; omega) (fun e => by have := hlo b e.symm; omega)).trans (hbel3.block b hb)⟩
        · rw [List.nodup_append]
          exact ⟨HND.out, by simp, fun a ha b hb => by rw [List.mem_singleton.1 hb]; exact fun e => hj (e ▸ ha)⟩
        · intro x
          rw [List.mem_append, List.mem_singleton, HMEM.out x]
          by_cases hxj : x = j
          · subst hxj; simp [hFj]
          · simp [hxj]
        · rw [hrg4.left_eq, HRG.out.left_eq]; exact hlt3
      have HE := Lib.hid hend
      have HOWN3 := Lib.hid hown3
      have hsz3 : w.heap.size + 1 ≤ w3.heap.size := hrg3.lt
      clear hend hown3 hbel3 hrg3 hlt3 hg3 hs3 hLj hj hwj HOWN HMEM HND HRG HBEL
      go_wp2_with (with_reducible refine app1 rfl (.tmp 17) (.tmp 19) 33 rfl (w.heap.size + 1) 3 (.int .i64 0) 8 Tryz.underlying33 info_int rfl v zs.length (zs.map (Value.int .i64)) rfl HOWN3.out (.int .i64 j) 1 rfl rfl ?c1 ?c2 ?c3 ?_)
      case c1 => unfold maxLen; omega
      case c2 => omega
      case c3 => exact hsz3
      intro v4 w4 ho4 hg4
      obtain ⟨hrel, hmeas⟩ := HE.out v4 w4 ho4 hg4
      have HREL := Lib.hid hrel
      have HMEAS := Lib.hid hmeas
      clear hrel hmeas ho4 hg4 HE HOWN3
      go_wp2_with fail
      go_roundw
      case rel => exact ⟨_, _, _, _, rfl, HREL.out⟩
      case measure => exact HMEAS.out
end Go.Proofs.YtigfcoibbmndpaaGreat
