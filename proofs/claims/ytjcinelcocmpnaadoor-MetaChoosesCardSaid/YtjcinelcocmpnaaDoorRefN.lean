/- The document's superblock, unsealed: the walk. -/
import Derived.Test.YtjcinelcocmpnaaDoorRefM
import Derived.Test.YtjcinelcocmpnaaDoorRefH
namespace Go.Proofs.YtjcinelcocmpnaaDoor
open Go.RowKit
set_option linter.unusedVariables false
set_option linter.unusedSimpArgs false
/-- What stays: the answer's block, all that was there. -/
def UrA (w wr : World) : Prop := Below w.heap.size w wr ∧ Blk wr w.heap.size 27 sup0.arr
theorem UrA.below {w wr w1 : World} (h : UrA w wr) (hb : Below wr.heap.size wr w1) : UrA w w1 := ⟨h.1.trans (hb.mono h.1.size), h.2.below hb h.2.lt⟩
theorem UrA.drewN {w wr : World} (h : UrA w wr) (n : Nat) : UrA w (wr.drewN n) := ⟨below_drewN h.1 n, h.2⟩
theorem UrA.alloc {w wr : World} (h : UrA w wr) (o : Obj) : UrA w (wr.alloc o) := ⟨h.1.alloc h.1.size o, h.2.alloc o⟩
theorem UrA.setCell {w wr : World} (h : UrA w wr) {p : Addr} (hp : w.heap.size < p.block) (u : Value) : UrA w (wr.setCell p u) := ⟨h.1.setCell (by omega) u, h.2.far (by omega) u⟩
theorem blk_zero {w : World} {g : Nat} {t : TypeId} (h : Blk w g t sup0.arr) : w.frozen? ⟨g, 0, none⟩ = false ∧ w.frozen? ⟨g, 1, none⟩ = false ∧ w.frozen? ⟨g, 2, none⟩ = false ∧ w.frozen? ⟨g, 3, none⟩ = false ∧ w.frozen? ⟨g, 4, none⟩ = false ∧ w.frozen? ⟨g, 5, none⟩ = false ∧ w.frozen? ⟨g, 6, none⟩ = false ∧ w.frozen? ⟨g, 7, none⟩ = false ∧ w.frozen? ⟨g, 8, none⟩ = false ∧ w.frozen? ⟨g, 9, none⟩ = false
    ∧ w.cell? ⟨g, 0, none⟩ = some (.int .u64 0) ∧ w.cell? ⟨g, 1, none⟩ = some (.int .i64 0) ∧ w.cell? ⟨g, 2, none⟩ = some (.int .i64 0) ∧ w.cell? ⟨g, 3, none⟩ = some (.int .i64 0) ∧ w.cell? ⟨g, 4, none⟩ = some (.int .u64 0) ∧ w.cell? ⟨g, 5, none⟩ = some (.int .u64 0) ∧ w.cell? ⟨g, 6, none⟩ = some (.int .u64 0) ∧ w.cell? ⟨g, 7, none⟩ = some (.int .u64 0) ∧ w.cell? ⟨g, 8, none⟩ = some (.int .u32 0) ∧ w.cell? ⟨g, 9, none⟩ = some (.int .i64 0) :=
  ⟨h.free 0, h.free 1, h.free 2, h.free 3, h.free 4, h.free 5, h.free 6, h.free 7, h.free 8, h.free 9, h.cell 0, h.cell 1, h.cell 2, h.cell 3, h.cell 4, h.cell 5, h.cell 6, h.cell 7, h.cell 8, h.cell 9⟩
theorem letters_index (j : Nat) (h : j < 8) : ∀ w, (Instr.index 9 (.string { data := #[82, 69, 80, 76, 73, 67, 65, 49] }) (.int .i64 (j : Int))).run Tryd.prog w = .ok (.int .u8 (lettersL.getD j 0)) w := by
  have : j = 0 ∨ j = 1 ∨ j = 2 ∨ j = 3 ∨ j = 4 ∨ j = 5 ∨ j = 6 ∨ j = 7 := by omega
  rcases this with rfl | rfl | rfl | rfl | rfl | rfl | rfl | rfl <;> (intro w; kernel_rfl)
/-- What holds while the fields are read: the fields' block. -/
def UfA (b off : Nat) (xs : List Int) (X : Nat) (f : Nat → Int) (w wr : World) : Prop := UrA w wr ∧ RowA .u64 61 wr X 10 f
theorem UfA.congr {b off : Nat} {xs : List Int} {X : Nat} {f f' : Nat → Int} {w wr : World} (h : UfA b off xs X f w wr) (hf : ∀ j, f j = f' j) : UfA b off xs X f' w wr := by
  rw [show f' = f from (funext hf).symm]; exact h
theorem UfA.drewN {b off : Nat} {xs : List Int} {X : Nat} {f : Nat → Int} {w wr : World} (h : UfA b off xs X f w wr) (n : Nat) : UfA b off xs X f w (wr.drewN n) := ⟨h.1.drewN n, h.2.drewN n⟩
theorem UfA.put {b off : Nat} {xs : List Int} {X : Nat} {f f' : Nat → Int} {w wr : World} (h : UfA b off xs X f w wr) (hX : w.heap.size < X) (k : Nat) (x : Int) (hf : ∀ j, f' j = if j = k then x else f j) : UfA b off xs X f' w (wr.setCell ⟨X, k, none⟩ (.int .u64 x)) :=
  ⟨h.1.setCell hX _, by rw [show f' = _ from funext hf]; exact h.2.put k x⟩
/-- What holds while the head is held against the block. -/
def UgA (N g : Nat) (s : Sup) (P : Nat) (w wr : World) : Prop := UrA w wr ∧ Blk wr P 27 s.arr ∧ RowA .u8 5 wr g (N - 32) (fun i => (headL s).getD i 0)
theorem UgA.drewN {N g : Nat} {s : Sup} {P : Nat} {w wr : World} (h : UgA N g s P w wr) (n : Nat) : UgA N g s P w (wr.drewN n) := ⟨h.1.drewN n, h.2.1.drewN n, h.2.2.drewN n⟩
set_option maxHeartbeats 4000000 in
set_option maxRecDepth 100000 in
theorem runseal_size (n : Nat) (A : Option Addr) (c : Nat) (w : World) (hno : ¬ okSize n) :
    Calls Tryd.prog 17 #[.slice A n c] w (UnQ (sup0, 3) w) := by
  go_enter Tryd.func17, Tryd.ntmps17
  go_wp2_with (go_at_call 33; refine (rsizes_no _ _ hno).mono ?_; rintro e w' ⟨rfl, rfl⟩)
  refine bodyPost_ret (run_results _ _ w.heap.size sup0 3 rfl rfl (Blk.newAt _ _ _ _ rfl)) rfl ⟨rfl, (Below.refl _ _).alloc (Nat.le_refl _) _⟩
set_option maxHeartbeats 4000000 in
set_option maxRecDepth 100000 in
theorem runseal_big (ks : List Int) (S : St) (xs : List Int) (b off c : Nat) (w : World) (hT : TabR ks S w) (hks : ks.length = 64) (hz : okSize xs.length) (hc : xs.length ≤ c) (hbl : b < w.heap.size) (hx : ∀ i, i < xs.length → w.cell? ⟨b, off + i, none⟩ = some (.int .u8 (xs.getD i 0))) (hb : Bytes xs) :
    Calls Tryd.prog 17 #[.slice (some ⟨b, off, none⟩) xs.length c] w (UnQ (unF (fun i => ks.getD i 0) S xs) w) := by
  obtain ⟨r, er⟩ : ∃ r, r = unF (fun i => ks.getD i 0) S xs := ⟨_, rfl⟩
  rw [← er]
  have ER := Lib.hid er
  clear er
  have hn : 128 ≤ xs.length ∧ xs.length ≤ 1024 := by unfold okSize at hz; omega
  obtain ⟨N, eN⟩ : ∃ N, N = xs.length := ⟨_, rfl⟩
  have hsz := fun w => rsizes_yes xs.length w hz
  rw [← eN] at hn hc ⊢
  rw [← eN] at hsz
  obtain ⟨n1, n2⟩ := hn
  obtain ⟨wa, ewa⟩ : ∃ wa, wa = w.alloc (.cells sup0.arr 27) := ⟨_, rfl⟩
  have hA : UrA w wa := by rw [ewa]; exact ⟨(Below.refl _ _).alloc (Nat.le_refl _) _, Blk.newAt _ _ _ _ rfl⟩
  simp only [sup0, Sup.arr] at ewa
  have HA := Lib.hid hA
  have EWA := Lib.hid ewa
  have HSZ := Lib.hid hsz
  have EN := Lib.hid eN
  have HT := Lib.hid hT
  have HKS := Lib.hid hks
  have HZ := Lib.hid hz
  have HX := Lib.hid hx
  have HB := Lib.hid hb
  clear hA ewa hsz eN hT hks hz hx hb
  have hend : ∀ (s : Sup) (e : Int) (tmps : Array Value) (W : World) (hW : UrA w W) (hq : r = (s, e)) (hp : tmps.getD 2 undef = .pointer (some ⟨w.heap.size, 0, none⟩)) (h3 : tmps.getD 3 undef = .int .i64 e),
      bodyPost Tryd.prog Tryd.f17 (UnQ r w) .ret { tmps := tmps, defers := [] } ((((((((((W.setCell ⟨w.heap.size, 0, none⟩ (.int .u64 s.sq)).setCell ⟨w.heap.size, 1, none⟩ (.int .i64 s.bl)).setCell ⟨w.heap.size, 2, none⟩ (.int .i64 s.sz)).setCell ⟨w.heap.size, 3, none⟩ (.int .i64 s.sl)).setCell ⟨w.heap.size, 4, none⟩ (.int .u64 s.cu)).setCell ⟨w.heap.size, 5, none⟩ (.int .u64 s.bm)).setCell ⟨w.heap.size, 6, none⟩ (.int .u64 s.o1)).setCell ⟨w.heap.size, 7, none⟩ (.int .u64 s.o2)).setCell ⟨w.heap.size, 8, none⟩ (.int .u32 s.fl)).setCell ⟨w.heap.size, 9, none⟩ (.int .i64 s.mr)) := by
    intro s e tmps W hW hq hp h3
    have hR4 := hW.2.set10 (.int .u64 s.sq) (.int .i64 s.bl) (.int .i64 s.sz) (.int .i64 s.sl) (.int .u64 s.cu) (.int .u64 s.bm) (.int .u64 s.o1) (.int .u64 s.o2) (.int .u32 s.fl) (.int .i64 s.mr)
    refine bodyPost_ret (run_results _ _ w.heap.size s e hp h3 hR4) rfl ⟨by rw [hq], ?_⟩
    exact hW.1.trans ((Only.set10 (bs := [w.heap.size]) (Only.refl [w.heap.size] W) (List.mem_singleton.2 rfl) (.int .u64 s.sq) (.int .i64 s.bl) (.int .i64 s.sz) (.int .i64 s.sl) (.int .u64 s.cu) (.int .u64 s.bm) (.int .u64 s.o1) (.int .u64 s.o2) (.int .u32 s.fl) (.int .i64 s.mr)).below hW.1.size (fun b hb => by rw [List.mem_singleton.1 hb]; exact Nat.le_refl _))
  have HEND := Lib.hid hend
  clear hend
  go_enter Tryd.func17, Tryd.ntmps17
  go_wp2_with fail
  rw [← EWA.out]
  refine (HSZ.out _).mono ?_
  rintro e w' ⟨rfl, rfl⟩
  go_wp2_with fail
  go_loopw [6] (fun i wr => ∃ j : Nat, j ≤ 8 ∧ i = .int .i64 j ∧ (∀ t, t < j → xs.getD t 0 = lettersL.getD t 0) ∧ UrA w wr) (fun i _ => 8 - (intOf i).toNat)
  case atStart => exact ⟨0, by omega, rfl, fun t ht => absurd ht (Nat.not_lt_zero _), HA.out⟩
  case round =>
    obtain ⟨j, hj, rfl, hL, hR⟩ := hrel
    have HL := Lib.hid hL
    have HR := Lib.hid hR
    by_cases hlt : j < 8
    · obtain ⟨x, ex⟩ : ∃ x, x = xs.getD j 0 := ⟨_, rfl⟩
      have hc1 : wr.cell? ⟨b, off + j, none⟩ = some (.int .u8 x) := by rw [ex]; exact (hR.1.cell (p := ⟨b, off + j, none⟩) hbl).trans (HX.out j (by have := EN.out; omega))
      have EX := Lib.hid ex
      clear hL hR ex
      have hdr := fun m => HR.out.drewN m
      have hix := letters_index j hlt
      obtain ⟨y, ey⟩ : ∃ y, y = lettersL.getD j 0 := ⟨_, rfl⟩
      rw [← ey] at hix
      by_cases hxy : x = y
      · have hbb : (x != y) = false := by simp [hxy]
        have hl2 : ∀ t, t < j + 1 → xs.getD t 0 = lettersL.getD t 0 := fun t ht => by
          by_cases h : t < j
          · exact HL.out t h
          · obtain rfl : t = j := by omega
            rw [← EX.out, ← ey]; exact hxy
        have HL2 := Lib.hid hl2
        have HDR := Lib.hid hdr
        clear hxy hl2 hdr ey
        go_wp2_with fail
        go_quiet (fail)
        go_wp2_with fail
        go_roundw
        case rel => exact ⟨j + 1, by omega, by go_num, HL2.out, HDR.out _⟩
        case measure => simp [intOf] <;> omega
      · have hbb : (x != y) = true := by simp [hxy]
        have hq : r = (sup0, 51) := by rw [ER.out]; exact unF_51 HZ.out (letters_take_ne xs j hlt (by rw [← EX.out, ← ey]; exact hxy))
        have HQ := Lib.hid hq
        have HDR := Lib.hid hdr
        clear hxy hq hdr ey
        obtain ⟨f0, f1, f2, f3, f4, f5, f6, f7, f8, f9, g0, g1, g2, g3, g4, g5, g6, g7, g8, g9⟩ := blk_zero HR.out.2
        go_wp2_with fail
        go_quiet (fail)
        go_wp2_with fail
        exact HEND.out sup0 51 _ _ (HDR.out _) HQ.out rfl rfl
    · obtain rfl : j = 8 := by omega
      have h8 : xs.take 8 = lettersL := letters_take xs (by have := EN.out; omega) hL
      have H8 := Lib.hid h8
      clear h8 hL HL hR
      obtain ⟨w1, rfl⟩ : ∃ w1 : World, w1 = wr := ⟨_, rfl⟩
      have m3 : ((N : Int) - 32).toNat = N - 32 := by omega
      have hT1 : TabR ks S w1 := HT.out.below HR.out.1
      have hbl1 : b < w1.heap.size := Nat.lt_of_lt_of_le hbl HR.out.1.size
      have hx1 : ∀ i, i < xs.length → w1.cell? ⟨b, off + i, none⟩ = some (.int .u8 (xs.getD i 0)) := fun i hi => (HR.out.1.cell (p := ⟨b, off + i, none⟩) hbl).trans (HX.out i hi)
      obtain ⟨dg, edg⟩ : ∃ dg, dg = shaF (fun i => ks.getD i 0) S (xs.take (N - 32)) := ⟨_, rfl⟩
      have hdl : dg.length = 32 := by rw [edg, shaF_length]
      have htl : (xs.take (N - 32)).length = N - 32 := by rw [List.length_take, ← EN.out]; omega
      obtain ⟨z32, hz32, e32⟩ : ∃ zc : Array Value, (∀ w, (zeroValue 44).run Tryd.prog w = .ok (.agg zc) w) ∧ zc = (List.replicate 32 (Value.int .u8 0)).toArray :=
        ⟨(List.replicate 32 (Value.int .u8 0)).toArray, fun w => by kernel_rfl, rfl⟩
      obtain ⟨sa, esa⟩ : ∃ sa, sa = (dg.map (Value.int .u8)).toArray := ⟨_, rfl⟩
      have k1 : (Tryd.prog.info? 44).map (·.size) = some sa.size := by rw [esa]; simp only [List.size_toArray, List.length_map, hdl]; exact sum_size
      have k2 : z32.size = sa.size := by rw [e32, esa]; simp [hdl]
      have k3 : sa.all (·.oneCell') = true := by rw [esa]; exact sh_one _ _
      have hst := fun w2 => run_storeAt_new (P := Tryd.prog) w2 44 z32 sa k1 k2 k3
      have hst2 := fun w2 => run_storeCells_new (P := Tryd.prog) w2 44 z32 sa k1 k2 k3
      have hsas : sa.size = 32 := by rw [esa]; simp [hdl]
      have hsA : Calls Tryd.prog 29 #[.slice (some ⟨b, off, none⟩) (N - 32) c] w1 fun e w' => e = .returned (.agg sa) ∧ Below w1.heap.size w1 w' := by
        have := rsum_ok S ks b off c (xs.take (N - 32)) w1 hT1 HKS.out hbl1 (by rw [htl]; omega) (by rw [htl]; omega) (fun i hi => by
          rw [htl] at hi
          rw [hx1 i (by rw [← EN.out]; omega), List.getD_eq_getElem?_getD, List.getD_eq_getElem?_getD, List.getElem?_take, if_pos hi])
        rw [htl, ← edg] at this
        rw [esa]; exact this
      have HSA := Lib.hid hsA
      have HX1 := Lib.hid hx1
      have ESA := Lib.hid esa
      have EDG := Lib.hid edg
      have HDL := Lib.hid hdl
      clear hsA hx1 esa edg hdl htl e32 k1 k2 k3 hT1
      go_wp2_with fail
      refine HSA.out.mono ?_
      rintro e w2 ⟨rfl, hb2⟩
      have hR2 : UrA w (w2.alloc (.cells sa 44)) := (HR.out.below hb2).alloc _
      have hD2 : Blk (w2.alloc (.cells sa 44)) w2.heap.size 44 sa := Blk.newAt _ _ _ _ rfl
      have hDn : w.heap.size < w2.heap.size := Nat.lt_of_lt_of_le HR.out.2.lt hb2.size
      have HR2 := Lib.hid hR2
      have HD2 := Lib.hid hD2
      clear hR2 hD2 hb2 HSA
      go_wp2_with fail
      clear hst hst2 hsas
      go_loopw [8] (fun i wr => ∃ j : Nat, j ≤ 32 ∧ i = .int .i64 j ∧ (∀ t, t < j → xs.getD (N - 32 + t) 0 = dg.getD t 0) ∧ UrA w wr ∧ Blk wr w2.heap.size 44 sa) (fun i _ => 32 - (intOf i).toNat)
      case atStart => exact ⟨0, by omega, rfl, fun t ht => absurd ht (Nat.not_lt_zero _), HR2.out, HD2.out⟩
      case round =>
        obtain ⟨j, hj, rfl, hL, hR, hD⟩ := hrel
        clear HR HR2 HD2
        have HL := Lib.hid hL
        have HR := Lib.hid hR
        have HD := Lib.hid hD
        by_cases hlt : j < 32
        · obtain ⟨x, ex⟩ : ∃ x, x = xs.getD (N - 32 + j) 0 := ⟨_, rfl⟩
          have hc1 : wr.cell? ⟨b, off + (N - 32 + j), none⟩ = some (.int .u8 x) := by rw [ex]; exact (hR.1.cell (p := ⟨b, off + (N - 32 + j), none⟩) hbl).trans (HX.out _ (by have := EN.out; omega))
          obtain ⟨y, ey⟩ : ∃ y, y = dg.getD j 0 := ⟨_, rfl⟩
          have hc2 : wr.cell? ⟨w2.heap.size, j, none⟩ = some (.int .u8 y) := by
            have : j < dg.length := by rw [HDL.out]; exact hlt
            rw [hD.cell j, ESA.out, ey]; simp [this]
          have m4 : IntKind.i64.wrap ((N : Int) - 32) = (N : Int) - 32 := IntWalk.i64_in _ (by omega)
          have m5 : IntKind.i64.wrap ((N : Int) - 32 + j) = (N : Int) - 32 + j := IntWalk.i64_in _ (by omega)
          have m6 : ((N : Int) - 32 + j).toNat = N - 32 + j := by omega
          have m7 : (0 : Int) ≤ (N : Int) - 32 + j := by omega
          have m8 : (N : Int) - 32 + j < N := by omega
          have EX := Lib.hid ex
          have EY := Lib.hid ey
          have hdr := fun m => (HR.out.drewN m : UrA w (wr.drewN m))
          have hdd := fun m => (HD.out.drewN m : Blk (wr.drewN m) w2.heap.size 44 sa)
          clear hL hR hD ex ey
          by_cases hxy : x = y
          · have hbb : (x != y) = false := by simp [hxy]
            have hl2 : ∀ t, t < j + 1 → xs.getD (N - 32 + t) 0 = dg.getD t 0 := fun t ht => by
              by_cases h : t < j
              · exact HL.out t h
              · obtain rfl : t = j := by omega
                rw [← EX.out, ← EY.out]; exact hxy
            have HL2 := Lib.hid hl2
            have HDR := Lib.hid hdr
            have HDD := Lib.hid hdd
            clear hxy hl2 hdr hdd
            go_wp2_with fail
            go_quiet (fail)
            go_wp2_with fail
            go_roundw
            case rel => exact ⟨j + 1, by omega, by go_num, HL2.out, HDR.out _, HDD.out _⟩
            case measure => simp [intOf] <;> omega
          · have hbb : (x != y) = true := by simp [hxy]
            have hq : r = (sup0, 52) := by
              rw [ER.out]
              refine unF_52 HZ.out H8.out ?_
              rw [← EN.out, ← EDG.out, EN.out]
              exact tail_ne xs dg j (by rw [← EN.out, ← EX.out, ← EY.out]; exact hxy)
            have HQ := Lib.hid hq
            have HDR := Lib.hid hdr
            clear hxy hq hdr hdd
            obtain ⟨f0, f1, f2, f3, f4, f5, f6, f7, f8, f9, g0, g1, g2, g3, g4, g5, g6, g7, g8, g9⟩ := blk_zero HR.out.2
            go_wp2_with fail
            go_quiet (fail)
            go_wp2_with fail
            exact HEND.out sup0 52 _ _ (HDR.out _) HQ.out rfl rfl
        · obtain rfl : j = 32 := by omega
          have h32 : xs.drop (xs.length - 32) = shaF (fun i => ks.getD i 0) S (xs.take (xs.length - 32)) := by
            have := tail_eq xs dg HDL.out (by rw [← EN.out]; omega) (fun t ht => by rw [← EN.out]; exact hL t ht)
            rw [this, EDG.out, ← EN.out]
          have H32 := Lib.hid h32
          obtain ⟨w3, rfl⟩ : ∃ w3 : World, w3 = wr := ⟨_, rfl⟩
          obtain ⟨z10, hz10, e10⟩ : ∃ zc : Array Value, (∀ w, (zeroValue 61).run Tryd.prog w = .ok (.agg zc) w) ∧ zc = madeCells #[Value.int .u64 0] 10 :=
            ⟨madeCells #[Value.int .u64 0] 10, fun w => by kernel_rfl, rfl⟩
          have hX0 : UfA b off xs w3.heap.size (fun _ => 0) w (w3.alloc (.cells z10 61)) := by
            rw [e10]
            exact ⟨hR.alloc _, RowA.made .u64 _ w3 10⟩
          have hXn : w.heap.size < w3.heap.size := hR.2.lt
          have HX0 := Lib.hid hX0
          clear h32 hL HL hR HR hD HD hX0 HSZ HT e10
          go_wp2_with fail
          go_loopw [10, 11, 12, 13] (fun f _ _ _ wr => ∃ k : Nat, k ≤ 10 ∧ f = .int .i64 k ∧ UfA b off xs w3.heap.size (fun j => if j < k then fld xs (plN j) (wdN j) else 0) w wr) (fun f _ _ _ _ => 10 - (intOf f).toNat)
          case atStart => exact ⟨0, by omega, rfl, HX0.out⟩
          case round =>
            obtain ⟨k, hk, rfl, hQ⟩ := hrel
            clear HX0
            have HQ := Lib.hid hQ
            by_cases hlk : k < 10
            · have hpl := plN_le k
              have hwd := wdN_le k
              have hst : plN k + wdN k ≤ 68 := by
                have : k = 0 ∨ k = 1 ∨ k = 2 ∨ k = 3 ∨ k = 4 ∨ k = 5 ∨ k = 6 ∨ k = 7 ∨ k = 8 ∨ k = 9 := by omega
                rcases this with rfl | rfl | rfl | rfl | rfl | rfl | rfl | rfl | rfl | rfl <;> decide
              clear hQ
              go_wp2_with (first | (go_at_call 34; refine (place_ok k _ hlk).mono ?_; rintro e w' ⟨rfl, rfl⟩) | (go_at_call 35; refine (wide_ok k _ hlk).mono ?_; rintro e w' ⟨rfl, rfl⟩))
              obtain ⟨wo, rfl⟩ : ∃ wo : World, wo = wr := ⟨_, rfl⟩
              go_loopw [13] (fun i wr => ∃ q : Nat, q ≤ wdN k ∧ i = .int .i64 q ∧ UfA b off xs w3.heap.size (fun j => if j < k then fld xs (plN j) (wdN j) else if j = k then fld xs (plN k) q else 0) w wr) (fun i _ => wdN k - (intOf i).toNat)
              case atStart => exact ⟨0, Nat.zero_le _, rfl, HQ.out.congr fun j => by
                by_cases h : j < k
                · rw [if_pos h, if_pos h]
                · rw [if_neg h, if_neg h]
                  by_cases h2 : j = k
                  · rw [if_pos h2, fld_zero]
                  · rw [if_neg h2]⟩
              case round =>
                obtain ⟨q, hq, rfl, hR⟩ := hrel
                have HR := Lib.hid hR
                by_cases hlq : q < wdN k
                · obtain ⟨x, ex⟩ : ∃ x, x = xs.getD (plN k + q) 0 := ⟨_, rfl⟩
                  have hc1 : wr.cell? ⟨b, off + (plN k + q), none⟩ = some (.int .u8 x) := by rw [ex]; exact (hR.1.1.cell (p := ⟨b, off + (plN k + q), none⟩) hbl).trans (HX.out _ (by have := EN.out; omega))
                  obtain ⟨a, ea⟩ : ∃ a, a = fld xs (plN k) q := ⟨_, rfl⟩
                  have hc2 : wr.cell? ⟨w3.heap.size, k, none⟩ = some (.int .u64 a) := by
                    have := hR.2.cell k hlk
                    rw [if_neg (by omega), if_pos rfl, ← ea] at this; exact this
                  have hf2 := hR.2.free k
                  have hax := HB.out.at (plN k + q)
                  have hab := fld_bound xs (plN k) q HB.out (by omega) (by have := EN.out; omega)
                  have hp7 := pow_le7 q (by omega)
                  rw [← ea] at hab
                  rw [← ex] at hax
                  obtain ⟨hx0, hx255⟩ := hax
                  have ha0 := hab.1
                  have ha1 : a < 72057594037927936 := by omega
                  have hnx : fld xs (plN k) (q + 1) = a * 256 + x := by rw [ea, ex]; exact fld_next xs _ _ HB.out (by omega) (by have := EN.out; omega)
                  have m4 : IntKind.u64.wrap (a * 256) = a * 256 := IntWalk.u64_in _ (by omega)
                  have m5 : IntKind.u64.wrap (a * 256 + x) = a * 256 + x := IntWalk.u64_in _ (by omega)
                  have m6 : IntKind.i64.wrap ((plN k : Int) + q) = (plN k : Int) + q := IntWalk.i64_in _ (by omega)
                  have m7 : ((plN k : Int) + q).toNat = plN k + q := by omega
                  have m8 : (0 : Int) ≤ (plN k : Int) + q := by omega
                  have m9 : (plN k : Int) + q < N := by omega
                  have m10 : IntKind.u64.wrap x = x := IntWalk.u64_in _ (by omega)
                  have HNX := Lib.hid hnx
                  clear hR ea ex hab hp7 hnx
                  go_wp2_with fail
                  go_still_tail 16, (by kernel_rfl)
                  go_wp2_with fail
                  go_roundw
                  case rel =>
                    refine ⟨q + 1, by omega, by go_num, (HR.out.drewN 1).put hXn k _ fun j => ?_⟩
                    by_cases h1 : j < k
                    · rw [if_pos h1, if_pos h1, if_neg (by omega)]
                    · rw [if_neg h1, if_neg h1]
                      by_cases h2 : j = k
                      · rw [if_pos h2, if_pos h2, HNX.out]
                      · rw [if_neg h2, if_neg h2, if_neg h2]
                  case measure => simp [intOf] <;> omega
                · obtain rfl : q = wdN k := by omega
                  have hS : UfA b off xs w3.heap.size (fun j => if j < k + 1 then fld xs (plN j) (wdN j) else 0) w wr := hR.congr fun j => by
                    by_cases h1 : j < k
                    · rw [if_pos h1, if_pos (by omega)]
                    · rw [if_neg h1]
                      by_cases h2 : j = k
                      · rw [if_pos h2, if_pos (by omega), h2]
                      · rw [if_neg h2, if_neg (by omega)]
                  have HS := Lib.hid hS
                  clear hR hS HR HQ hst
                  go_wp2_with fail
                  go_roundw
                  case rel => first | exact ⟨k + 1, by omega, by go_num, HS.out⟩ | ((repeat apply Exists.intro); exact ⟨⟨k + 1, by omega, by go_num, HS.out⟩, rfl⟩)
                  case measure => simp [intOf] <;> omega
            · obtain rfl : k = 10 := by omega
              obtain ⟨w4, rfl⟩ : ∃ w4 : World, w4 = wr := ⟨_, rfl⟩
              obtain ⟨hR4, hrow⟩ := hQ
              obtain ⟨s, es⟩ : ∃ s, s = supOf xs := ⟨_, rfl⟩
              obtain ⟨a0, e0⟩ : ∃ a, a = fld xs 8 8 := ⟨_, rfl⟩
              obtain ⟨a1, e1⟩ : ∃ a, a = fld xs 16 4 := ⟨_, rfl⟩
              obtain ⟨a2, e2⟩ : ∃ a, a = fld xs 20 4 := ⟨_, rfl⟩
              obtain ⟨a3, e3⟩ : ∃ a, a = fld xs 24 4 := ⟨_, rfl⟩
              obtain ⟨a4, e4⟩ : ∃ a, a = fld xs 28 4 := ⟨_, rfl⟩
              obtain ⟨a5, e5⟩ : ∃ a, a = fld xs 32 8 := ⟨_, rfl⟩
              obtain ⟨a6, e6⟩ : ∃ a, a = fld xs 40 8 := ⟨_, rfl⟩
              obtain ⟨a7, e7⟩ : ∃ a, a = fld xs 48 8 := ⟨_, rfl⟩
              obtain ⟨a8, e8⟩ : ∃ a, a = fld xs 56 8 := ⟨_, rfl⟩
              obtain ⟨a9, e9⟩ : ∃ a, a = fld xs 64 4 := ⟨_, rfl⟩
              have hs : s = ⟨a0, a1, a2, a3, a5, a6, a7, a8, a9, a4⟩ := by rw [es, e0, e1, e2, e3, e4, e5, e6, e7, e8, e9]; rfl
              have c0 : w4.cell? ⟨w3.heap.size, 0, none⟩ = some (.int .u64 a0) := by rw [e0]; exact hrow.cell 0 (by omega)
              have c1 : w4.cell? ⟨w3.heap.size, 1, none⟩ = some (.int .u64 a1) := by rw [e1]; exact hrow.cell 1 (by omega)
              have c2 : w4.cell? ⟨w3.heap.size, 2, none⟩ = some (.int .u64 a2) := by rw [e2]; exact hrow.cell 2 (by omega)
              have c3 : w4.cell? ⟨w3.heap.size, 3, none⟩ = some (.int .u64 a3) := by rw [e3]; exact hrow.cell 3 (by omega)
              have c4 : w4.cell? ⟨w3.heap.size, 4, none⟩ = some (.int .u64 a4) := by rw [e4]; exact hrow.cell 4 (by omega)
              have c5 : w4.cell? ⟨w3.heap.size, 5, none⟩ = some (.int .u64 a5) := by rw [e5]; exact hrow.cell 5 (by omega)
              have c6 : w4.cell? ⟨w3.heap.size, 6, none⟩ = some (.int .u64 a6) := by rw [e6]; exact hrow.cell 6 (by omega)
              have c7 : w4.cell? ⟨w3.heap.size, 7, none⟩ = some (.int .u64 a7) := by rw [e7]; exact hrow.cell 7 (by omega)
              have c8 : w4.cell? ⟨w3.heap.size, 8, none⟩ = some (.int .u64 a8) := by rw [e8]; exact hrow.cell 8 (by omega)
              have c9 : w4.cell? ⟨w3.heap.size, 9, none⟩ = some (.int .u64 a9) := by rw [e9]; exact hrow.cell 9 (by omega)
              have l4 : (256 : Int) ^ 4 = 4294967296 := by decide
              have hlen : 100 ≤ xs.length := by rw [← EN.out]; omega
              have q1 := fld_bound xs 16 4 HB.out (by omega) (by omega)
              have q2 := fld_bound xs 20 4 HB.out (by omega) (by omega)
              have q3 := fld_bound xs 24 4 HB.out (by omega) (by omega)
              have q4 := fld_bound xs 28 4 HB.out (by omega) (by omega)
              have q9 := fld_bound xs 64 4 HB.out (by omega) (by omega)
              rw [l4] at q1 q2 q3 q4 q9
              rw [← e1] at q1
              rw [← e2] at q2
              rw [← e3] at q3
              rw [← e4] at q4
              rw [← e9] at q9
              have hsup := rsuper_ok a0 a1 a2 a3 a4 a5 a6 a7 a8 a9 w4 q1 q2 q3 q4 q9
              simp only [Sup.arr] at hsup
              have hks : Kinds s := by rw [es]; exact supOf_kinds xs HB.out hlen
              have HSUP := Lib.hid hsup
              have HKI := Lib.hid hks
              have HS := Lib.hid hs
              have ES := Lib.hid es
              have HR4 := Lib.hid hR4
              clear HQ hrow hsup hks hs es e0 e1 e2 e3 e4 e5 e6 e7 e8 e9 l4 hR4 q1 q2 q3 q4 q9
              go_wp2_with fail
              refine HSUP.out.mono ?_
              rintro e w5 ⟨rfl, hb5⟩
              clear c0 c1 c2 c3 c4 c5 c6 c7 c8 c9
              have hft := rfit_ok s (w5.alloc (.cells s.arr 27))
              obtain ⟨w6, ew6⟩ : ∃ w6, w6 = w5.alloc (.cells s.arr 27) := ⟨_, rfl⟩
              have hR6 : UrA w w6 := by rw [ew6]; exact (HR4.out.below hb5).alloc _
              have hP6 : Blk w6 w5.heap.size 27 s.arr := by rw [ew6]; exact Blk.newAt _ _ _ _ rfl
              rw [← ew6] at hft
              have hn5 : w.heap.size < w5.heap.size := Nat.lt_of_lt_of_le HR4.out.2.lt hb5.size
              obtain ⟨F, eF⟩ : ∃ F, F = FtQ s w6 := ⟨_, rfl⟩
              rw [← eF] at hft
              have harr : s.arr = #[.int .u64 a0, .int .i64 a1, .int .i64 a2, .int .i64 a3, .int .u64 a5, .int .u64 a6, .int .u64 a7, .int .u64 a8, .int .u32 a9, .int .i64 a4] := by rw [HS.out]; rfl
              rw [harr] at hft ew6
              have HFT := Lib.hid hft
              have EF := Lib.hid eF
              have EW6 := Lib.hid ew6
              have HR6 := Lib.hid hR6
              have HP6 := Lib.hid hP6
              have HARR := Lib.hid harr
              clear hft eF ew6 hR6 hP6 harr hb5 HSUP HR4
              go_wp2_with fail
              rw [← EW6.out]
              refine HFT.out.mono ?_
              rw [EF.out]
              rintro e w7 ⟨⟨r0, rfl, hr0⟩, hb7⟩
              have hR7 : UrA w w7 := HR6.out.below hb7
              have hP7 : Blk w7 w5.heap.size 27 s.arr := HP6.out.below hb7 HP6.out.lt
              have hn7 : w5.heap.size < w7.heap.size := hP7.lt
              have HR7 := Lib.hid hR7
              have HP7 := Lib.hid hP7
              clear HR6 HP6 HFT EF EW6 hb7 hR7
              by_cases hfit : Fits s
              · obtain rfl : r0 = true := hr0.2 hfit
                clear hr0
                have c0 := hP7.cell 0
                have c1 := hP7.cell 1
                have c2 := hP7.cell 2
                have c3 := hP7.cell 3
                have c4 := hP7.cell 4
                have c5 := hP7.cell 5
                have c6 := hP7.cell 6
                have c7 := hP7.cell 7
                have c8 := hP7.cell 8
                have c9 := hP7.cell 9
                simp only [HARR.out, List.getElem?_toArray, List.getElem?_cons_zero, List.getElem?_cons_succ] at c0 c1 c2 c3 c4 c5 c6 c7 c8 c9
                by_cases ha2 : a2 = (N : Int)
                · have hb2 : (a2 != (N : Int)) = false := by simp [ha2]
                  have hsz : s.sz = (N : Int) := by rw [HS.out]; exact ha2
                  have hhd := rhead_ok s N w7 hfit HKI.out hsz
                  have hgood : ∀ j, (headL s).getD j 0 = if j < 68 then xs.getD j 0 else 0 := fun j => by
                    rw [ES.out]; exact head_back xs HB.out H8.out (by rw [← EN.out]; omega) j
                  have hgd : (∀ j, j < N - 32 → (headL s).getD j 0 = xs.getD j 0) ↔ Good xs := by
                    constructor
                    · intro h
                      refine ⟨by rw [← ES.out]; exact hfit, by rw [← ES.out, hsz, EN.out], fun i h1 h2 => ?_⟩
                      have := h i (by rw [EN.out]; exact h2)
                      rw [hgood i, if_neg (by omega)] at this
                      exact this.symm
                    · intro h j hj
                      rw [hgood j]
                      by_cases hj6 : j < 68
                      · rw [if_pos hj6]
                      · rw [if_neg hj6]; exact (h.2.2 j (by omega) (by rw [← EN.out]; exact hj)).symm
                  obtain ⟨H, eH⟩ : ∃ H, H = HdQ s N w7 := ⟨_, rfl⟩
                  rw [← eH, HARR.out] at hhd
                  have HHD := Lib.hid hhd
                  have EH := Lib.hid eH
                  have HGD := Lib.hid hgd
                  clear ha2 hsz hhd hgood hgd eH hfit hP7
                  go_wp2_with fail
                  refine HHD.out.mono ?_
                  rw [EH.out]
                  rintro e w8 ⟨g, rfl, hg, hb8, hrow⟩
                  clear c0 c1 c2 c3 c4 c5 c6 c7 c8 c9 hb2
                  have hQ8 : UgA N g s w5.heap.size w w8 := ⟨HR7.out.below hb8, HP7.out.below hb8 HP7.out.lt, hrow⟩
                  have HQ8 := Lib.hid hQ8
                  clear hrow hQ8 hb8 HHD EH
                  go_wp2_with fail
                  go_loopw [16] (fun i wr => ∃ j : Nat, j ≤ N - 32 ∧ i = .int .i64 j ∧ (∀ t, t < j → (headL s).getD t 0 = xs.getD t 0) ∧ UgA N g s w5.heap.size w wr) (fun i _ => N - (intOf i).toNat)
                  case atStart => exact ⟨0, by omega, rfl, fun t ht => absurd ht (Nat.not_lt_zero _), HQ8.out⟩
                  case round =>
                    obtain ⟨j, hj, rfl, hL, hQ⟩ := hrel
                    clear HQ8 HR7 HP7
                    have HL := Lib.hid hL
                    have HQ := Lib.hid hQ
                    by_cases hlt : j < N - 32
                    · obtain ⟨x, ex⟩ : ∃ x, x = (headL s).getD j 0 := ⟨_, rfl⟩
                      obtain ⟨y, ey⟩ : ∃ y, y = xs.getD j 0 := ⟨_, rfl⟩
                      have hc1 : wr.cell? ⟨b, off + j, none⟩ = some (.int .u8 y) := by rw [ey]; exact (hQ.1.1.cell (p := ⟨b, off + j, none⟩) hbl).trans (HX.out j (by have := EN.out; omega))
                      have hc2 : wr.cell? ⟨g, j, none⟩ = some (.int .u8 x) := by rw [ex]; exact hQ.2.2.cell j hlt
                      have EX := Lib.hid ex
                      have EY := Lib.hid ey
                      have hdr := fun m => HQ.out.drewN m
                      have m1 : j < N := by omega
                      clear hL hQ ex ey
                      by_cases hxy : x = y
                      · have hbb : (x != y) = false := by simp [hxy]
                        have hl2 : ∀ t, t < j + 1 → (headL s).getD t 0 = xs.getD t 0 := fun t ht => by
                          by_cases h : t < j
                          · exact HL.out t h
                          · obtain rfl : t = j := by omega
                            rw [← EX.out, ← EY.out]; exact hxy
                        have HL2 := Lib.hid hl2
                        have HDR := Lib.hid hdr
                        clear hxy hl2 hdr
                        go_wp2_with fail
                        go_quiet (fail)
                        go_wp2_with fail
                        go_roundw
                        case rel => exact ⟨j + 1, by omega, by go_num, HL2.out, HDR.out _⟩
                        case measure => simp [intOf] <;> omega
                      · have hbb : (x != y) = true := by simp [hxy]
                        have hq : r = (sup0, 53) := by
                          rw [ER.out]
                          refine unF_53 HZ.out H8.out H32.out fun h => hxy ?_
                          rw [EX.out, EY.out]; exact HGD.out.2 h j hlt
                        have HQ2 := Lib.hid hq
                        have HDR := Lib.hid hdr
                        clear hxy hq hdr
                        obtain ⟨f0, f1, f2, f3, f4, f5, f6, f7, f8, f9, g0, g1, g2, g3, g4, g5, g6, g7, g8, g9⟩ := blk_zero HQ.out.1.2
                        go_wp2_with fail
                        go_quiet (fail)
                        go_wp2_with fail
                        exact HEND.out sup0 53 _ _ (HDR.out _).1 HQ2.out rfl rfl
                    · obtain rfl : j = N - 32 := by omega
                      have hq : r = (s, 0) := by rw [ER.out, ES.out]; exact unF_0 HZ.out H8.out H32.out (HGD.out.1 hL)
                      have HQ2 := Lib.hid hq
                      have c0 := hQ.2.1.cell 0
                      have c1 := hQ.2.1.cell 1
                      have c2 := hQ.2.1.cell 2
                      have c3 := hQ.2.1.cell 3
                      have c4 := hQ.2.1.cell 4
                      have c5 := hQ.2.1.cell 5
                      have c6 := hQ.2.1.cell 6
                      have c7 := hQ.2.1.cell 7
                      have c8 := hQ.2.1.cell 8
                      have c9 := hQ.2.1.cell 9
                      simp only [HARR.out, List.getElem?_toArray, List.getElem?_cons_zero, List.getElem?_cons_succ] at c0 c1 c2 c3 c4 c5 c6 c7 c8 c9
                      have he := HEND.out s 0
                      rw [HS.out] at he HQ2
                      have HE := Lib.hid he
                      clear hL hQ hq he
                      obtain ⟨f0, f1, f2, f3, f4, f5, f6, f7, f8, f9, g0, g1, g2, g3, g4, g5, g6, g7, g8, g9⟩ := blk_zero HQ.out.1.2
                      go_wp2_with fail
                      exact HE.out _ _ HQ.out.1 HQ2.out rfl rfl
                · have hb2 : (a2 != (N : Int)) = true := by simp [ha2]
                  have hq : r = (sup0, 53) := by
                    rw [ER.out]
                    refine unF_53 HZ.out H8.out H32.out fun h => ha2 ?_
                    have := h.2.1
                    rw [← ES.out, HS.out, ← EN.out] at this; exact this
                  have HQ2 := Lib.hid hq
                  clear ha2 hq hfit hP7 c0 c1 c3 c4 c5 c6 c7 c8 c9
                  obtain ⟨f0, f1, f2, f3, f4, f5, f6, f7, f8, f9, g0, g1, g2, g3, g4, g5, g6, g7, g8, g9⟩ := blk_zero HR7.out.2
                  go_wp2_with fail
                  exact HEND.out sup0 53 _ _ HR7.out HQ2.out rfl rfl
              · obtain rfl : r0 = false := by cases r0; rfl; exact absurd (hr0.1 rfl) hfit
                have hq : r = (sup0, 53) := by
                  rw [ER.out]
                  refine unF_53 HZ.out H8.out H32.out fun h => hfit ?_
                  rw [ES.out]; exact h.1
                have HQ2 := Lib.hid hq
                clear hq hr0 hfit hP7
                obtain ⟨f0, f1, f2, f3, f4, f5, f6, f7, f8, f9, g0, g1, g2, g3, g4, g5, g6, g7, g8, g9⟩ := blk_zero HR7.out.2
                go_wp2_with fail
                exact HEND.out sup0 53 _ _ HR7.out HQ2.out rfl rfl
theorem runseal_ok (ks : List Int) (S : St) (v : Value) (xs : List Int) (w : World) (hT : TabR ks S w) (hks : ks.length = 64) (hr : Rd .u8 w v xs) (hb : Bytes xs) :
    Calls Tryd.prog 17 #[v] w (UnQ (unF (fun i => ks.getD i 0) S xs) w) := by
  by_cases hz : okSize xs.length
  · rcases hr with ⟨rfl, _⟩ | ⟨b, off, c, rfl, h1, h2, h3, h4⟩
    · exact absurd hz (by unfold okSize; simp)
    · exact runseal_big ks S xs b off c w hT hks hz h2 h3 h4 hb
  · obtain ⟨A, c, rfl⟩ := hr.slice
    unfold unF
    rw [if_pos hz]
    exact runseal_size xs.length A c w hz
end Go.Proofs.YtjcinelcocmpnaaDoor
