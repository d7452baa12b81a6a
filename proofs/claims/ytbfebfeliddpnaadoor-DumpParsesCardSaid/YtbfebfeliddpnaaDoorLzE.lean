/- The book: keep. -/
import Derived.Test.YtbfebfeliddpnaaDoorLzD
namespace Go.Proofs.YtbfebfeliddpnaaDoor
open Go.RowKit
open Go.ChangeMaps
set_option linter.unusedVariables false
set_option linter.unusedSimpArgs false
def KeepQ (B : Nat) (w : World) (p n : Nat) (S : Nat → Prop) (vb vs : Value) (e : Ending) (w' : World) : Prop :=
  e = .returned (.tuple #[]) ∧ OnlyP (fun b => B ≤ b ∨ vb.ownBlock = some b ∨ vs.ownBlock = some b) w w' ∧ ∃ vW vI LW LI, BkS B w' p (n + 1) (fun b => S b ∨ vb.ownBlock = some b ∨ vs.ownBlock = some b ∨ w.heap.size ≤ b) vW vI LW LI
theorem info_u64s : (Tryd.prog.info? 28).map (fun i => (i.zero, i.size, i.bytes)) = some (some (.slice none 0 0), 1, 24) := by kernel_rfl
theorem info_ints : (Tryd.prog.info? 29).map (fun i => (i.zero, i.size, i.bytes)) = some (some (.slice none 0 0), 1, 24) := by kernel_rfl
theorem info_u64e : (Tryd.prog.info? 22).map (fun i => (i.zero, i.size, i.bytes)) = some (some (.int .u64 0), 1, 8) := by kernel_rfl
theorem info_inte : (Tryd.prog.info? 3).map (fun i => (i.zero, i.size, i.bytes)) = some (some (.int .i64 0), 1, 8) := by kernel_rfl
theorem own_blkE {w : World} {B : Nat} {e : TypeId} {k n : Nat} {v : Value} {xs : List Value} (h : w.ownsRow B e k v n xs) {q : Nat} {t : TypeId} {cs : Array Value} (h2 : Blk w q t cs) (ht : t ≠ e) : v.ownBlock ≠ some q := fun hg => by
  obtain ⟨cur, hc⟩ := own_blk h hg
  exact h2.ne_blk hc ht rfl
theorem own_ne {w : World} {B C : Nat} {e f : TypeId} {k l n m : Nat} {v u : Value} {xs ys : List Value} (h : w.ownsRow B e k v n xs) (h2 : w.ownsRow C f l u m ys) (ht : e ≠ f) : ∀ g, v.ownBlock = some g → u.ownBlock ≠ some g := fun g hg hu => by
  obtain ⟨cur, hc⟩ := own_blk h hg
  exact own_blkE h2 hc ht hu
set_option maxHeartbeats 8000000 in
set_option maxRecDepth 100000 in
theorem keep_ok (B B2 : Nat) (w : World) (p n : Nat) (S : Nat → Prop) (vW vI : Value) (LW LI : List Value) (D : Dm) (vb vs : Value) (hK : BkS B w p n S vW vI LW LI) (hn : n ≤ 1000) (hD : DumpIn B2 w D vb vs) (hbl : D.bl ≤ 4096) (hsl : D.slots.length ≤ 16)
    (h1 : ∀ g, vb.ownBlock = some g → ¬ S g) (h2 : ∀ g, vs.ownBlock = some g → ¬ S g) (hB : B ≤ w.heap.size) :
    Calls Tryd.prog 11 #[.pointer (some ⟨p, 0, none⟩), .agg (D.arr vb vs)] w (KeepQ B w p n S vb vs) := by
  obtain ⟨Q, eQ⟩ : ∃ Q : Ending → World → Prop, Q = KeepQ B w p n S vb vs := ⟨_, rfl⟩
  rw [← eQ]
  have EQ := Lib.hid eQ
  clear eQ
  obtain ⟨NB, eNB⟩ : ∃ x, x = D.nw := ⟨_, rfl⟩
  have hNB : NB ≤ 64 := by rw [eNB]; unfold Dm.nw; omega
  obtain ⟨NS, eNS⟩ : ∃ x, x = D.slots.length := ⟨_, rfl⟩
  have hNS : NS ≤ 16 := by omega
  have hvb : w.ownsRow 0 22 1 vb NB (D.wl.map (Value.int .u64)) := by rw [eNB]; exact own_lower hD.1 (Nat.zero_le _)
  have hvs : w.ownsRow 0 3 1 vs NS (D.slots.map (Value.int .i64)) := by rw [eNS]; exact own_lower hD.2 (Nat.zero_le _)
  obtain ⟨Ab, cb, rfl⟩ := own_sl hvb
  obtain ⟨As, cs, rfl⟩ := own_sl hvs
  obtain ⟨NW, eNW⟩ : ∃ x, x = 2 * n := ⟨_, rfl⟩
  have hNW : NW ≤ 2000 := by omega
  have hKw := hK.ws
  have hKi := hK.is
  rw [← eNW] at hKw hKi
  obtain ⟨AW, cW, rfl⟩ := own_sl hKw
  obtain ⟨AI, cI, rfl⟩ := own_sl hKi
  unfold Dm.arr
  obtain ⟨sq, esq⟩ : ∃ x, x = D.sq := ⟨_, rfl⟩
  obtain ⟨bl, ebl⟩ : ∃ x, x = D.bl := ⟨_, rfl⟩
  obtain ⟨sz, esz⟩ : ∃ x, x = D.sz := ⟨_, rfl⟩
  obtain ⟨sl, esl⟩ : ∃ x, x = D.sl := ⟨_, rfl⟩
  obtain ⟨g0, eg0⟩ : ∃ x, x = D.g0 := ⟨_, rfl⟩
  obtain ⟨g1, eg1⟩ : ∃ x, x = D.g1 := ⟨_, rfl⟩
  obtain ⟨g2, eg2⟩ : ∃ x, x = D.g2 := ⟨_, rfl⟩
  obtain ⟨g3, eg3⟩ : ∃ x, x = D.g3 := ⟨_, rfl⟩
  obtain ⟨fl, efl⟩ : ∃ x, x = D.fl := ⟨_, rfl⟩
  obtain ⟨mr, emr⟩ : ∃ x, x = D.mr := ⟨_, rfl⟩
  rw [← esq, ← ebl, ← esz, ← esl, ← eg0, ← eg1, ← eg2, ← eg3, ← efl, ← emr]
  clear esq ebl esz esl eg0 eg1 eg2 eg3 efl emr
  obtain ⟨wa, ewa⟩ : ∃ x, x = w.alloc (.cells #[.int .u64 (sq : Nat), .int .i64 (bl : Nat), .int .i64 (sz : Nat), .int .i64 (sl : Nat), .int .u64 (g0 : Nat), .int .u64 (g1 : Nat), .int .u64 (g2 : Nat), .int .u64 (g3 : Nat), .int .u32 (fl : Nat), .int .i64 (mr : Nat), .slice Ab NB cb, .slice As NS cs] 31) := ⟨_, rfl⟩
  obtain ⟨b0, eb0⟩ : ∃ x, x = w.heap.size := ⟨_, rfl⟩
  have hob : OnlyP (fun _ => False) w wa := by rw [ewa]; exact (OnlyP.refl _ _).alloc _
  have hbx : Blk wa b0 31 #[.int .u64 (sq : Nat), .int .i64 (bl : Nat), .int .i64 (sz : Nat), .int .i64 (sl : Nat), .int .u64 (g0 : Nat), .int .u64 (g1 : Nat), .int .u64 (g2 : Nat), .int .u64 (g3 : Nat), .int .u32 (fl : Nat), .int .i64 (mr : Nat), .slice Ab NB cb, .slice As NS cs] := by rw [ewa, eb0]; exact Blk.new _ _ _
  have hpk : Blk wa p 41 #[.slice AW NW cW, .slice AI NW cI] := by rw [ewa]; exact hK.blk.alloc _
  have hvb1 : wa.ownsRow 0 22 1 (.slice Ab NB cb) NB (D.wl.map (Value.int .u64)) := by rw [ewa]; exact hvb.alloc _
  have hvs1 : wa.ownsRow 0 3 1 (.slice As NS cs) NS (D.slots.map (Value.int .i64)) := by rw [ewa]; exact hvs.alloc _
  have hKw1 : wa.ownsRow B 28 1 (.slice AW NW cW) NW LW := by rw [ewa]; exact hKw.alloc _
  have hKi1 : wa.ownsRow B 29 1 (.slice AI NW cI) NW LI := by rw [ewa]; exact hKi.alloc _
  have EWA := Lib.hid ewa
  have EB0 := Lib.hid eb0
  have ENW := Lib.hid eNW
  have HOB := Lib.hid hob
  have HBX := Lib.hid hbx
  have HPK := Lib.hid hpk
  have HVB := Lib.hid hvb1
  have HVS := Lib.hid hvs1
  have HKW := Lib.hid hKw1
  have HKI := Lib.hid hKi1
  have HK := Lib.hid hK
  have HNS1 := Lib.hid h1
  have HNS2 := Lib.hid h2
  have ht1 : Int.tdiv ((NW : Nat) : Int) 2 = (n : Int) := by rw [eNW, Int.tdiv_eq_ediv_of_nonneg (by omega)]; omega
  have pc0 : wa.cell? ⟨p, 0, none⟩ = some (.slice AW NW cW) := HPK.out.cell 0
  clear ewa eb0 eNW hob hbx hpk hvb1 hvs1 hKw1 hKi1 hK h1 h2 eNB eNS hvb hvs hD hKw hKi hbl hsl
  go_enter Tryd.func11, Tryd.ntmps11
  go_upto_region 1 with (fail)
  rw [← EWA.out, ← EB0.out]
  go_wp2_with fail
  obtain ⟨XW, eXW⟩ : ∃ x, x = mkW n := ⟨_, rfl⟩
  rw [show (14987979559889010689 + (n : Int)) = XW from eXW.symm]
  have EXW := Lib.hid eXW
  clear eXW ht1 pc0
  have HBXFW := Lib.hid (fun wr (ho : OnlyP (fun b => (Value.slice Ab NB cb).ownBlock = some b) wa wr) => show Blk wr b0 31 #[.int .u64 (sq : Nat), .int .i64 (bl : Nat), .int .i64 (sz : Nat), .int .i64 (sl : Nat), .int .u64 (g0 : Nat), .int .u64 (g1 : Nat), .int .u64 (g2 : Nat), .int .u64 (g3 : Nat), .int .u32 (fl : Nat), .int .i64 (mr : Nat), .slice Ab NB cb, .slice As NS cs] from (ho.block b0 HBX.out.lt (own_blkE HVB.out HBX.out (by decide))).trans HBX.out)
  have HBWW := Lib.hid (show B ≤ wa.heap.size from Nat.le_trans hB HOB.out.size)
  go_loopw [5] (fun iv wr => ∃ j : Nat, iv = .int .i64 (j : Nat) ∧ j ≤ NB ∧ FillR .u64 22 XW wa wr (Value.slice Ab NB cb) NB j) (fun iv _ => NB - (intOf iv).toNat)
  case atStart => exact ⟨0, rfl, Nat.zero_le _, OnlyP.refl _ _, _, HVB.out, fun i hi => absurd hi (by omega)⟩
  case round =>
    obtain ⟨j, rfl, hj, hfl⟩ := hrel
    have bx : wr.cell? ⟨b0, 10, none⟩ = some (Value.slice Ab NB cb) := (HBXFW.out wr hfl.1).cell 10
    have hb0 : b0 < wr.heap.size := (HBXFW.out wr hfl.1).lt
    by_cases hlt : j < NB
    · obtain ⟨g, cap, y, hv, hc, hf, hgl, hst⟩ := hfl.step hlt
      simp only [Value.slice.injEq] at hv
      obtain ⟨hv1, _, hv2⟩ := hv
      subst hv1
      subst hv2
      have HST := Lib.hid hst
      clear hfl hst
      go_wp2_with fail
      go_roundw
      case rel => exact ⟨j + 1, by go_num, by omega, HST.out⟩
      case measure => simp [intOf]; omega
    · obtain rfl : NB = j := by omega
      obtain ⟨hoW1, hwW1⟩ := hfl.done
      obtain ⟨wFW, ewF⟩ : ∃ x, x = wr := ⟨_, rfl⟩
      rw [← ewF] at hoW1 hwW1 bx hb0 ⊢
      have HOFW := Lib.hid hoW1
      have HWFW := Lib.hid hwW1
      clear hfl hlt ewF hoW1 hwW1 wr
      go_wp2_with fail
      go_loopw [6, 7] (fun uv mv wr => ∃ m : Nat, mv = .int .i64 (m : Nat) ∧ m ≤ 80 ∧ MoreR .u64 22 XW wFW wr (Value.slice Ab NB cb) uv NB m) (fun _ mv _ => 80 - (intOf mv).toNat)
      case atStart => exact ⟨0, rfl, Nat.zero_le _, MoreR.start HWFW.out⟩
      case round =>
        obtain ⟨m, rfl, hm, hmo⟩ := hrel
        by_cases hlt : m < 80
        · have d80 : decide ((m : Int) < 80) = true := decide_eq_true (by omega)
          have HOWN := Lib.hid hmo.2.1
          have HMO := Lib.hid hmo
          clear hmo
          go_wp2_with (with_reducible refine app1k rfl (.tmp 38) (.tmp 40) 28 rfl 0 22 (.int .u64 0) 8 Tryd.underlying28 info_u64e rfl u6 (NB + m) _ rfl HOWN.out (.int .u64 XW) 1 rfl rfl ?c1 ?c2 ?c3 ?_)
          case c1 => unfold maxLen; omega
          case c2 => omega
          case c3 => exact Nat.zero_le _
          intro v4 w4 ho4 hg4 hl4 hk4
          have HR := Lib.hid (HMO.out.step ho4 hg4 hl4 hk4)
          clear ho4 hg4 hl4 hk4 HMO HOWN
          go_wp2_with fail
          go_roundw
          case rel => exact ⟨m + 1, by go_num, by omega, HR.out⟩
          case measure => simp [intOf]; omega
        · obtain rfl : m = 80 := by omega
          have d80 : decide ((80 : Int) < 80) = false := by decide
          obtain ⟨w2W, ew2⟩ : ∃ x, x = wr := ⟨_, rfl⟩
          rw [← ew2] at hmo ⊢
          obtain ⟨AuW, cuW, hu⟩ := own_sl hmo.2.1
          subst hu
          have hon : OnlyP (fun b => (Value.slice Ab NB cb).ownBlock = some b) wa w2W := HOFW.out.then hmo.1
          have HBX2 := Lib.hid (HBXFW.out w2W hon)
          have HPK2 := Lib.hid (show Blk w2W p 41 #[.slice AW NW cW, .slice AI NW cI] from (hon.block p HPK.out.lt (own_blkE HVB.out HPK.out (by decide))).trans HPK.out)
          have HROW2 := Lib.hid (own_keep2 HKW.out (fun g hg => hon.block g (HKW.out.lt g hg).2 (fun h9 => own_ne HKW.out HVB.out (by decide) g hg h9)))
          obtain ⟨hrv, hru⟩ := hmo.done HWFW.out
          have HRVW := Lib.hid hrv
          have HRUW := Lib.hid hru
          have HUOW := Lib.hid (show ∀ g, (Value.slice AuW (NB + 80) cuW).ownBlock = some g → ((Value.slice Ab NB cb).ownBlock = some g ∨ wa.heap.size ≤ g) ∧ g < w2W.heap.size from fun g hg => ⟨(hmo.2.2.1 g hg).imp id (fun h9 => Nat.le_trans HOFW.out.size h9), (hmo.2.1.lt g hg).2⟩)
          have HON2 := Lib.hid hon
          have HVTW := Lib.hid (show ∀ g, (Value.slice Ab NB cb).ownBlock = some g → ∃ cs, Blk w2W g 22 cs from fun g hg => (hmo.vcs hg).imp fun _ h => h.1)
          have HUTW := Lib.hid (show ∀ g, (Value.slice AuW (NB + 80) cuW).ownBlock = some g → ∃ cs, Blk w2W g 22 cs from fun g hg => (own_cs hmo.2.1 hg).imp fun _ h => h.1)
          clear hmo hon hrv hru ew2 wr hlt hb0 bx
          have bx : w2W.cell? ⟨b0, 10, none⟩ = some (Value.slice Ab NB cb) := HBX2.out.cell 10
          have px : w2W.cell? ⟨p, 0, none⟩ = some (Value.slice AW NW cW) := HPK2.out.cell 0
          have hb0 : b0 < w2W.heap.size := HBX2.out.lt
          have hp0 : p < w2W.heap.size := HPK2.out.lt
          have hBw : B ≤ w2W.heap.size := Nat.le_trans HBWW.out HON2.out.size
          have hpb : p ≠ b0 := HPK2.out.ne_blk HBX2.out (by decide)
          have HG4 := Lib.hid (fun w4 (hg4 : (w2W.alloc (.cells #[Value.slice Ab NB cb] 28)).grownBy w4 (Value.slice AW NW cW).ownBlock) => show Blk w4 p 41 #[.slice AW NW cW, .slice AI NW cI] from (hg4.block p (by simp; omega) (fun h9 => own_blkE HROW2.out HPK2.out (by decide) h9.symm)).trans (HPK2.out.alloc _))
          obtain ⟨i0, hi0, hzi⟩ := Option.map_eq_some_iff.1 info_u64s
          simp only [Prod.mk.injEq] at hzi
          obtain ⟨hz0, hz1, hz2⟩ := hzi
          go_wp2_with fail
          go_region_law (refine step_append_lies _ rfl (.tmp 46) (.tmp 49) 38 rfl B 28 i0 _ 1 24 Tryd.underlying38 hi0 hz0 hz1 hz2 rfl (by omega) (Value.slice AW NW cW) NW _ rfl ((HROW2.out.alloc _).drew) ⟨w2W.heap.size, 0, none⟩ 1 1 [Value.slice Ab NB cb] rfl rfl (World.news_of_block (cs := #[Value.slice Ab NB cb]) (t := 28) (fr := (0, 0)) (heap_alloc_new w2W _)) (by simp [Value.oneCell']) (by omega) (by unfold maxLen; omega) (by omega) (by simp; omega) (w2W.heap.size + 1) (by simp) ?_; intro gq cap3 w4 ho4 hg4 hat hlt4; have HO4 := Lib.hid ho4; have HGG := Lib.hid (show (w2W.alloc (.cells #[Value.slice Ab NB cb] 28)).grownBy w4 (Value.slice AW NW cW).ownBlock from ⟨hg4.os, hg4.tape, hg4.output, hg4.size, hg4.block⟩); have HAT := Lib.hid hat; have k4 : w4.cell? ⟨p, 0, none⟩ = some (Value.slice AW NW cW) := (HG4.out w4 HGG.out).cell 0; have f4 : w4.frozen? ⟨p, 0, none⟩ = false := (HG4.out w4 HGG.out).free 0; clear ho4 hg4 hat hlt4)
          all_goals
            obtain ⟨w5, e5⟩ : ∃ x, x = w4.setCell ⟨p, 0, none⟩ (.slice (some ⟨gq, 0, none⟩) (NW + 1) cap3) := ⟨_, rfl⟩
            rw [← e5]
            have HPK5 := Lib.hid (show Blk w5 p 41 #[.slice (some ⟨gq, 0, none⟩) (NW + 1) cap3, .slice AI NW cI] from by rw [e5]; exact (HG4.out w4 HGG.out).set 0 _)
            have hpg : p ≠ gq := fun e => own_blkE HO4.out (HG4.out w4 HGG.out) (by decide) (by rw [e]; rfl)
            have HROW5 := Lib.hid (show w5.ownsRow B 28 1 (.slice (some ⟨gq, 0, none⟩) (NW + 1) cap3) (NW + 1) (LW ++ [Value.slice Ab NB cb]) from by
              rw [e5]
              exact own_keep2 HO4.out (fun g hg => by
                have e : gq = g := by simpa [Value.ownBlock] using hg
                subst e
                exact Below.heap_setCell w4 ⟨p, 0, none⟩ _ gq (fun e => hpg e.symm)))
            have hon5 : OnlyP (fun b => b = p ∨ (Value.slice AW NW cW).ownBlock = some b) w2W w5 := by
              rw [e5]
              exact (((OnlyP.refl _ w2W).alloc _).grown HGG.out (fun g hg => .inl (.inr hg))).set (p := ⟨p, 0, none⟩) (.inl (.inl rfl)) _
            have HON5 := Lib.hid hon5
            have HAT5 := Lib.hid (show (Value.slice AW NW cW).ownBlock = some gq ∨ w2W.heap.size ≤ gq from HAT.out.imp id (fun h => by rw [h]; omega))
            have px5 : w5.cell? ⟨p, 0, none⟩ = some (.slice (some ⟨gq, 0, none⟩) (NW + 1) cap3) := HPK5.out.cell 0
            have hp5 : p < w5.heap.size := HPK5.out.lt
            have hB5 : B ≤ w5.heap.size := Nat.le_trans hBw hon5.size
            clear e5 hon5 HGG HO4 HAT k4 f4 px bx hpg
            go_wp2_with (with_reducible refine app1k rfl (.tmp 57) (.tmp 59) 38 rfl B 28 (.slice none 0 0) 24 Tryd.underlying38 info_u64s rfl (.slice (some ⟨gq, 0, none⟩) (NW + 1) cap3) (NW + 1) (LW ++ [Value.slice Ab NB cb]) rfl HROW5.out (.slice AuW (NB + 80) cuW) 1 rfl rfl ?c1 ?c2 hB5 ?_)
            case c1 => unfold maxLen; omega
            case c2 => omega
            intro v6 w6 ho6 hg6 hl6 hk6
            obtain ⟨A6W, c6W, rfl⟩ := own_sl ho6
            have hp6 : Blk w6 p 41 #[.slice (some ⟨gq, 0, none⟩) (NW + 1) cap3, .slice AI NW cI] := (hg6.block p HPK5.out.lt (fun h9 => own_blkE HROW5.out HPK5.out (by decide) h9.symm)).trans HPK5.out
            have k6 : w6.cell? ⟨p, 0, none⟩ = some (.slice (some ⟨gq, 0, none⟩) (NW + 1) cap3) := hp6.cell 0
            have f6 : w6.frozen? ⟨p, 0, none⟩ = false := hp6.free 0
            obtain ⟨w7W, e7⟩ : ∃ x, x = w6.setCell ⟨p, 0, none⟩ (.slice A6W (NW + 1 + 1) c6W) := ⟨_, rfl⟩
            have hp7 : Blk w7W p 41 #[.slice A6W (NW + 1 + 1) c6W, .slice AI NW cI] := by rw [e7]; exact hp6.set 0 _
            have hrow7 : w7W.ownsRow B 28 1 (.slice A6W (NW + 1 + 1) c6W) (NW + 1 + 1) (LW ++ [Value.slice Ab NB cb, .slice AuW (NB + 80) cuW]) := by
              rw [e7]
              exact own_keep2 ho6 (fun g hg => Below.heap_setCell w6 ⟨p, 0, none⟩ _ g (fun e => own_blkE ho6 hp6 (by decide) (by rw [hg]; simp only at e; rw [e])))
            have hon7 : OnlyP (fun b => b = p ∨ (Value.slice AW NW cW).ownBlock = some b) w2W w7W := by
              rw [e7]
              refine (HON5.out.grown hg6 (fun g hg => ?_)).set (p := ⟨p, 0, none⟩) (.inl (.inl rfl)) _
              have e : gq = g := by simpa [Value.ownBlock] using hg
              subst e
              exact HAT5.out.imp (fun h => .inr h) id
            have hfr : ∀ g cs, Blk w2W g 22 cs → w7W.heap[g]? = w2W.heap[g]? := fun g cs hb => hon7.block g hb.lt (fun hc => hc.elim (fun e => by rw [e] at hb; exact hb.ne_blk HPK2.out (by decide) rfl) (fun e => own_blkE HROW2.out hb (by decide) e))
            have HPK7W := Lib.hid hp7
            have HROW7W := Lib.hid hrow7
            have HON7W := Lib.hid (show OnlyP (fun b => b = p ∨ (Value.slice AW NW cW).ownBlock = some b ∨ (Value.slice Ab NB cb).ownBlock = some b) wa w7W from (HON2.out.mono (fun b hb => .inr (.inr hb))).then (hon7.mono (fun b hb => hb.imp id .inl)))
            have HRV7W := Lib.hid (rd_heap HRVW.out hon7.size (fun g hg => by obtain ⟨cs, hb⟩ := HVTW.out g hg; exact hfr g cs hb))
            have HRU7W := Lib.hid (rd_heap HRUW.out hon7.size (fun g hg => by obtain ⟨cs, hb⟩ := HUTW.out g hg; exact hfr g cs hb))
            have HVT7W := Lib.hid (show ∀ g, (Value.slice Ab NB cb).ownBlock = some g → ∃ cs, Blk w7W g 22 cs from fun g hg => by obtain ⟨cs, hb⟩ := HVTW.out g hg; exact ⟨cs, (hfr g cs hb).trans hb⟩)
            have HUT7W := Lib.hid (show ∀ g, (Value.slice AuW (NB + 80) cuW).ownBlock = some g → ∃ cs, Blk w7W g 22 cs from fun g hg => by obtain ⟨cs, hb⟩ := HUTW.out g hg; exact ⟨cs, (hfr g cs hb).trans hb⟩)
            have HBX7W := Lib.hid (show Blk w7W b0 31 #[.int .u64 (sq : Nat), .int .i64 (bl : Nat), .int .i64 (sz : Nat), .int .i64 (sl : Nat), .int .u64 (g0 : Nat), .int .u64 (g1 : Nat), .int .u64 (g2 : Nat), .int .u64 (g3 : Nat), .int .u32 (fl : Nat), .int .i64 (mr : Nat), .slice Ab NB cb, .slice As NS cs] from (hon7.block b0 HBX2.out.lt (fun hc => hc.elim (fun e => hpb e.symm) (fun e => own_blkE HROW2.out HBX2.out (by decide) e))).trans HBX2.out)
            have E7 := Lib.hid e7
            clear ho6 hg6 hl6 hk6 hp6 e7 hp7 hrow7 hon7 hfr px5 hp5 hB5 HPK5 HROW5 HON5 HAT5 HPK2 HROW2 HON2 HBX2 HRVW HRUW HVTW HUTW HG4 HOFW HWFW HBXFW
            go_upto_region 13 with (fail)
            rw [← E7.out]
            have hvs7 : w7W.ownsRow 0 3 1 (.slice As NS cs) NS (D.slots.map (Value.int .i64)) := own_keep2 HVS.out (fun g hg => HON7W.out.block g (HVS.out.lt g hg).2 (fun hc => hc.elim (fun e => own_blkE HVS.out HPK.out (by decide) (by rw [hg, e])) (fun hc => hc.elim (fun e => own_ne HKW.out HVS.out (by decide) g e hg) (fun e => own_ne HVB.out HVS.out (by decide) g e hg))))
            have hki7 : w7W.ownsRow B 29 1 (.slice AI NW cI) NW LI := own_keep2 HKI.out (fun g hg => HON7W.out.block g (HKI.out.lt g hg).2 (fun hc => hc.elim (fun e => own_blkE HKI.out HPK.out (by decide) (by rw [hg, e])) (fun hc => hc.elim (fun e => own_ne HKW.out HKI.out (by decide) g e hg) (fun e => own_ne HVB.out HKI.out (by decide) g e hg))))
            have HVS7 := Lib.hid hvs7
            have HKI7 := Lib.hid hki7
            have ht1 : Int.tdiv ((NW : Nat) : Int) 2 = (n : Int) := by rw [ENW.out, Int.tdiv_eq_ediv_of_nonneg (by omega)]; omega
            have pc1 : w7W.cell? ⟨p, 1, none⟩ = some (.slice AI NW cI) := HPK7W.out.cell 1
            have hp7 : p < w7W.heap.size := HPK7W.out.lt
            clear hvs7 hki7
            go_wp2_with fail
            obtain ⟨XI, eXI⟩ : ∃ x, x = mkI n := ⟨_, rfl⟩
            rw [show (-1000 - (n : Int)) = XI from eXI.symm]
            have EXI := Lib.hid eXI
            clear eXI ht1 pc1
            have HBXFI := Lib.hid (fun wr (ho : OnlyP (fun b => (Value.slice As NS cs).ownBlock = some b) w7W wr) => show Blk wr b0 31 #[.int .u64 (sq : Nat), .int .i64 (bl : Nat), .int .i64 (sz : Nat), .int .i64 (sl : Nat), .int .u64 (g0 : Nat), .int .u64 (g1 : Nat), .int .u64 (g2 : Nat), .int .u64 (g3 : Nat), .int .u32 (fl : Nat), .int .i64 (mr : Nat), .slice Ab NB cb, .slice As NS cs] from (ho.block b0 HBX7W.out.lt (own_blkE HVS7.out HBX7W.out (by decide))).trans HBX7W.out)
            have HBWI := Lib.hid (show B ≤ w7W.heap.size from Nat.le_trans HBWW.out HON7W.out.size)
            go_loopw [9] (fun iv wr => ∃ j : Nat, iv = .int .i64 (j : Nat) ∧ j ≤ NS ∧ FillR .i64 3 XI w7W wr (Value.slice As NS cs) NS j) (fun iv _ => NS - (intOf iv).toNat)
            case atStart => exact ⟨0, rfl, Nat.zero_le _, OnlyP.refl _ _, _, HVS7.out, fun i hi => absurd hi (by omega)⟩
            case round =>
              obtain ⟨j, rfl, hj, hfl⟩ := hrel
              have bx : wr.cell? ⟨b0, 11, none⟩ = some (Value.slice As NS cs) := (HBXFI.out wr hfl.1).cell 11
              have hb0 : b0 < wr.heap.size := (HBXFI.out wr hfl.1).lt
              by_cases hlt : j < NS
              · obtain ⟨g, cap, y, hv, hc, hf, hgl, hst⟩ := hfl.step hlt
                simp only [Value.slice.injEq] at hv
                obtain ⟨hv1, _, hv2⟩ := hv
                subst hv1
                subst hv2
                have HST := Lib.hid hst
                clear hfl hst
                go_wp2_with fail
                go_roundw
                case rel => exact ⟨j + 1, by go_num, by omega, HST.out⟩
                case measure => simp [intOf]; omega
              · obtain rfl : NS = j := by omega
                obtain ⟨hoI1, hwI1⟩ := hfl.done
                obtain ⟨wFI, ewF⟩ : ∃ x, x = wr := ⟨_, rfl⟩
                rw [← ewF] at hoI1 hwI1 bx hb0 ⊢
                have HOFI := Lib.hid hoI1
                have HWFI := Lib.hid hwI1
                clear hfl hlt ewF hoI1 hwI1 wr
                go_wp2_with fail
                go_loopw [10, 11] (fun uv mv wr => ∃ m : Nat, mv = .int .i64 (m : Nat) ∧ m ≤ 80 ∧ MoreR .i64 3 XI wFI wr (Value.slice As NS cs) uv NS m) (fun _ mv _ => 80 - (intOf mv).toNat)
                case atStart => exact ⟨0, rfl, Nat.zero_le _, MoreR.start HWFI.out⟩
                case round =>
                  obtain ⟨m, rfl, hm, hmo⟩ := hrel
                  by_cases hlt : m < 80
                  · have d80 : decide ((m : Int) < 80) = true := decide_eq_true (by omega)
                    have HOWN := Lib.hid hmo.2.1
                    have HMO := Lib.hid hmo
                    clear hmo
                    go_wp2_with (with_reducible refine app1k rfl (.tmp 88) (.tmp 90) 29 rfl 0 3 (.int .i64 0) 8 Tryd.underlying29 info_inte rfl u10 (NS + m) _ rfl HOWN.out (.int .i64 XI) 1 rfl rfl ?c1 ?c2 ?c3 ?_)
                    case c1 => unfold maxLen; omega
                    case c2 => omega
                    case c3 => exact Nat.zero_le _
                    intro v4 w4 ho4 hg4 hl4 hk4
                    have HR := Lib.hid (HMO.out.step ho4 hg4 hl4 hk4)
                    clear ho4 hg4 hl4 hk4 HMO HOWN
                    go_wp2_with fail
                    go_roundw
                    case rel => exact ⟨m + 1, by go_num, by omega, HR.out⟩
                    case measure => simp [intOf]; omega
                  · obtain rfl : m = 80 := by omega
                    have d80 : decide ((80 : Int) < 80) = false := by decide
                    obtain ⟨w2I, ew2⟩ : ∃ x, x = wr := ⟨_, rfl⟩
                    rw [← ew2] at hmo ⊢
                    obtain ⟨AuI, cuI, hu⟩ := own_sl hmo.2.1
                    subst hu
                    have hon : OnlyP (fun b => (Value.slice As NS cs).ownBlock = some b) w7W w2I := HOFI.out.then hmo.1
                    have HBX2 := Lib.hid (HBXFI.out w2I hon)
                    have HPK2 := Lib.hid (show Blk w2I p 41 #[.slice A6W (NW + 1 + 1) c6W, .slice AI NW cI] from (hon.block p HPK7W.out.lt (own_blkE HVS7.out HPK7W.out (by decide))).trans HPK7W.out)
                    have HROW2 := Lib.hid (own_keep2 HKI7.out (fun g hg => hon.block g (HKI7.out.lt g hg).2 (fun h9 => own_ne HKI7.out HVS7.out (by decide) g hg h9)))
                    obtain ⟨hrv, hru⟩ := hmo.done HWFI.out
                    have HRVI := Lib.hid hrv
                    have HRUI := Lib.hid hru
                    have HUOI := Lib.hid (show ∀ g, (Value.slice AuI (NS + 80) cuI).ownBlock = some g → ((Value.slice As NS cs).ownBlock = some g ∨ w7W.heap.size ≤ g) ∧ g < w2I.heap.size from fun g hg => ⟨(hmo.2.2.1 g hg).imp id (fun h9 => Nat.le_trans HOFI.out.size h9), (hmo.2.1.lt g hg).2⟩)
                    have HON2 := Lib.hid hon
                    have HVTI := Lib.hid (show ∀ g, (Value.slice As NS cs).ownBlock = some g → ∃ cs, Blk w2I g 3 cs from fun g hg => (hmo.vcs hg).imp fun _ h => h.1)
                    have HUTI := Lib.hid (show ∀ g, (Value.slice AuI (NS + 80) cuI).ownBlock = some g → ∃ cs, Blk w2I g 3 cs from fun g hg => (own_cs hmo.2.1 hg).imp fun _ h => h.1)
                    clear hmo hon hrv hru ew2 wr hlt hb0 bx
                    have bx : w2I.cell? ⟨b0, 11, none⟩ = some (Value.slice As NS cs) := HBX2.out.cell 11
                    have px : w2I.cell? ⟨p, 1, none⟩ = some (Value.slice AI NW cI) := HPK2.out.cell 1
                    have hb0 : b0 < w2I.heap.size := HBX2.out.lt
                    have hp0 : p < w2I.heap.size := HPK2.out.lt
                    have hBw : B ≤ w2I.heap.size := Nat.le_trans HBWI.out HON2.out.size
                    have hpb : p ≠ b0 := HPK2.out.ne_blk HBX2.out (by decide)
                    have HG4 := Lib.hid (fun w4 (hg4 : (w2I.alloc (.cells #[Value.slice As NS cs] 29)).grownBy w4 (Value.slice AI NW cI).ownBlock) => show Blk w4 p 41 #[.slice A6W (NW + 1 + 1) c6W, .slice AI NW cI] from (hg4.block p (by simp; omega) (fun h9 => own_blkE HROW2.out HPK2.out (by decide) h9.symm)).trans (HPK2.out.alloc _))
                    obtain ⟨i0, hi0, hzi⟩ := Option.map_eq_some_iff.1 info_ints
                    simp only [Prod.mk.injEq] at hzi
                    obtain ⟨hz0, hz1, hz2⟩ := hzi
                    go_wp2_with fail
                    go_region_law (refine step_append_lies _ rfl (.tmp 96) (.tmp 99) 39 rfl B 29 i0 _ 1 24 Tryd.underlying39 hi0 hz0 hz1 hz2 rfl (by omega) (Value.slice AI NW cI) NW _ rfl ((HROW2.out.alloc _).drew) ⟨w2I.heap.size, 0, none⟩ 1 1 [Value.slice As NS cs] rfl rfl (World.news_of_block (cs := #[Value.slice As NS cs]) (t := 29) (fr := (0, 0)) (heap_alloc_new w2I _)) (by simp [Value.oneCell']) (by omega) (by unfold maxLen; omega) (by omega) (by simp; omega) (w2I.heap.size + 1) (by simp) ?_; intro gq cap3 w4 ho4 hg4 hat hlt4; have HO4 := Lib.hid ho4; have HGG := Lib.hid (show (w2I.alloc (.cells #[Value.slice As NS cs] 29)).grownBy w4 (Value.slice AI NW cI).ownBlock from ⟨hg4.os, hg4.tape, hg4.output, hg4.size, hg4.block⟩); have HAT := Lib.hid hat; have k4 : w4.cell? ⟨p, 1, none⟩ = some (Value.slice AI NW cI) := (HG4.out w4 HGG.out).cell 1; have f4 : w4.frozen? ⟨p, 1, none⟩ = false := (HG4.out w4 HGG.out).free 1; clear ho4 hg4 hat hlt4)
                    all_goals
                      obtain ⟨w5, e5⟩ : ∃ x, x = w4.setCell ⟨p, 1, none⟩ (.slice (some ⟨gq, 0, none⟩) (NW + 1) cap3) := ⟨_, rfl⟩
                      rw [← e5]
                      have HPK5 := Lib.hid (show Blk w5 p 41 #[.slice A6W (NW + 1 + 1) c6W, .slice (some ⟨gq, 0, none⟩) (NW + 1) cap3] from by rw [e5]; exact (HG4.out w4 HGG.out).set 1 _)
                      have hpg : p ≠ gq := fun e => own_blkE HO4.out (HG4.out w4 HGG.out) (by decide) (by rw [e]; rfl)
                      have HROW5 := Lib.hid (show w5.ownsRow B 29 1 (.slice (some ⟨gq, 0, none⟩) (NW + 1) cap3) (NW + 1) (LI ++ [Value.slice As NS cs]) from by
                        rw [e5]
                        exact own_keep2 HO4.out (fun g hg => by
                          have e : gq = g := by simpa [Value.ownBlock] using hg
                          subst e
                          exact Below.heap_setCell w4 ⟨p, 1, none⟩ _ gq (fun e => hpg e.symm)))
                      have hon5 : OnlyP (fun b => b = p ∨ (Value.slice AI NW cI).ownBlock = some b) w2I w5 := by
                        rw [e5]
                        exact (((OnlyP.refl _ w2I).alloc _).grown HGG.out (fun g hg => .inl (.inr hg))).set (p := ⟨p, 1, none⟩) (.inl (.inl rfl)) _
                      have HON5 := Lib.hid hon5
                      have HAT5 := Lib.hid (show (Value.slice AI NW cI).ownBlock = some gq ∨ w2I.heap.size ≤ gq from HAT.out.imp id (fun h => by rw [h]; omega))
                      have px5 : w5.cell? ⟨p, 1, none⟩ = some (.slice (some ⟨gq, 0, none⟩) (NW + 1) cap3) := HPK5.out.cell 1
                      have hp5 : p < w5.heap.size := HPK5.out.lt
                      have hB5 : B ≤ w5.heap.size := Nat.le_trans hBw hon5.size
                      clear e5 hon5 HGG HO4 HAT k4 f4 px bx hpg
                      go_wp2_with (with_reducible refine app1k rfl (.tmp 107) (.tmp 109) 39 rfl B 29 (.slice none 0 0) 24 Tryd.underlying39 info_ints rfl (.slice (some ⟨gq, 0, none⟩) (NW + 1) cap3) (NW + 1) (LI ++ [Value.slice As NS cs]) rfl HROW5.out (.slice AuI (NS + 80) cuI) 1 rfl rfl ?c1 ?c2 hB5 ?_)
                      case c1 => unfold maxLen; omega
                      case c2 => omega
                      intro v6 w6 ho6 hg6 hl6 hk6
                      obtain ⟨A6I, c6I, rfl⟩ := own_sl ho6
                      have hp6 : Blk w6 p 41 #[.slice A6W (NW + 1 + 1) c6W, .slice (some ⟨gq, 0, none⟩) (NW + 1) cap3] := (hg6.block p HPK5.out.lt (fun h9 => own_blkE HROW5.out HPK5.out (by decide) h9.symm)).trans HPK5.out
                      have k6 : w6.cell? ⟨p, 1, none⟩ = some (.slice (some ⟨gq, 0, none⟩) (NW + 1) cap3) := hp6.cell 1
                      have f6 : w6.frozen? ⟨p, 1, none⟩ = false := hp6.free 1
                      obtain ⟨w7I, e7⟩ : ∃ x, x = w6.setCell ⟨p, 1, none⟩ (.slice A6I (NW + 1 + 1) c6I) := ⟨_, rfl⟩
                      have hp7 : Blk w7I p 41 #[.slice A6W (NW + 1 + 1) c6W, .slice A6I (NW + 1 + 1) c6I] := by rw [e7]; exact hp6.set 1 _
                      have hrow7 : w7I.ownsRow B 29 1 (.slice A6I (NW + 1 + 1) c6I) (NW + 1 + 1) (LI ++ [Value.slice As NS cs, .slice AuI (NS + 80) cuI]) := by
                        rw [e7]
                        exact own_keep2 ho6 (fun g hg => Below.heap_setCell w6 ⟨p, 1, none⟩ _ g (fun e => own_blkE ho6 hp6 (by decide) (by rw [hg]; simp only at e; rw [e])))
                      have hon7 : OnlyP (fun b => b = p ∨ (Value.slice AI NW cI).ownBlock = some b) w2I w7I := by
                        rw [e7]
                        refine (HON5.out.grown hg6 (fun g hg => ?_)).set (p := ⟨p, 1, none⟩) (.inl (.inl rfl)) _
                        have e : gq = g := by simpa [Value.ownBlock] using hg
                        subst e
                        exact HAT5.out.imp (fun h => .inr h) id
                      have hfr : ∀ g cs, Blk w2I g 3 cs → w7I.heap[g]? = w2I.heap[g]? := fun g cs hb => hon7.block g hb.lt (fun hc => hc.elim (fun e => by rw [e] at hb; exact hb.ne_blk HPK2.out (by decide) rfl) (fun e => own_blkE HROW2.out hb (by decide) e))
                      have HPK7I := Lib.hid hp7
                      have HROW7I := Lib.hid hrow7
                      have HON7I := Lib.hid (show OnlyP (fun b => b = p ∨ (Value.slice AI NW cI).ownBlock = some b ∨ (Value.slice As NS cs).ownBlock = some b) w7W w7I from (HON2.out.mono (fun b hb => .inr (.inr hb))).then (hon7.mono (fun b hb => hb.imp id .inl)))
                      have HRV7I := Lib.hid (rd_heap HRVI.out hon7.size (fun g hg => by obtain ⟨cs, hb⟩ := HVTI.out g hg; exact hfr g cs hb))
                      have HRU7I := Lib.hid (rd_heap HRUI.out hon7.size (fun g hg => by obtain ⟨cs, hb⟩ := HUTI.out g hg; exact hfr g cs hb))
                      have HVT7I := Lib.hid (show ∀ g, (Value.slice As NS cs).ownBlock = some g → ∃ cs, Blk w7I g 3 cs from fun g hg => by obtain ⟨cs, hb⟩ := HVTI.out g hg; exact ⟨cs, (hfr g cs hb).trans hb⟩)
                      have HUT7I := Lib.hid (show ∀ g, (Value.slice AuI (NS + 80) cuI).ownBlock = some g → ∃ cs, Blk w7I g 3 cs from fun g hg => by obtain ⟨cs, hb⟩ := HUTI.out g hg; exact ⟨cs, (hfr g cs hb).trans hb⟩)
                      have HBX7I := Lib.hid (show Blk w7I b0 31 #[.int .u64 (sq : Nat), .int .i64 (bl : Nat), .int .i64 (sz : Nat), .int .i64 (sl : Nat), .int .u64 (g0 : Nat), .int .u64 (g1 : Nat), .int .u64 (g2 : Nat), .int .u64 (g3 : Nat), .int .u32 (fl : Nat), .int .i64 (mr : Nat), .slice Ab NB cb, .slice As NS cs] from (hon7.block b0 HBX2.out.lt (fun hc => hc.elim (fun e => hpb e.symm) (fun e => own_blkE HROW2.out HBX2.out (by decide) e))).trans HBX2.out)
                      have E7 := Lib.hid e7
                      clear ho6 hg6 hl6 hk6 hp6 e7 hp7 hrow7 hon7 hfr px5 hp5 hB5 HPK5 HROW5 HON5 HAT5 HPK2 HROW2 HON2 HBX2 HRVI HRUI HVTI HUTI HG4 HOFI HWFI HBXFI
                      have hF : Q (.returned (.tuple #[])) w7I := by
                        rw [EQ.out]
                        have htot : OnlyP (fun b => b = p ∨ (Value.slice AW NW cW).ownBlock = some b ∨ (Value.slice Ab NB cb).ownBlock = some b ∨ (Value.slice AI NW cI).ownBlock = some b ∨ (Value.slice As NS cs).ownBlock = some b) w w7I :=
                          ((HOB.out.mono (fun _ h => h.elim)).then (HON7W.out.mono (fun b hb => hb.elim .inl (fun h => .inr (h.elim .inl (fun h => .inr (.inl h))))))).then (HON7I.out.mono (fun b hb => hb.elim .inl (fun h => .inr (.inr (.inr h)))))
                        have hK := HK.out
                        have hW := HKW.out
                        have hI := HKI.out
                        have hwa : w.heap.size ≤ wa.heap.size := HOB.out.size
                        have hw7 : wa.heap.size ≤ w7W.heap.size := HON7W.out.size
                        have hws : w.ownsRow B 28 1 (.slice AW NW cW) NW LW := by have h9 := hK.ws; rw [← ENW.out] at h9; exact h9
                        have his : w.ownsRow B 29 1 (.slice AI NW cI) NW LI := by have h9 := hK.is; rw [← ENW.out] at h9; exact h9
                        have hfrI : ∀ g cs, Blk w7W g 22 cs → w7I.heap[g]? = w7W.heap[g]? := fun g cs hb => HON7I.out.block g hb.lt (fun hc => hc.elim (fun e => by rw [e] at hb; exact hb.ne_blk HPK7W.out (by decide) rfl) (fun hc => hc.elim (fun e => own_blkE HKI7.out hb (by decide) e) (fun e => own_blkE HVS7.out hb (by decide) e)))
                        refine ⟨rfl, htot.mono (fun b hb => ?_), _, _, LW ++ [.slice Ab NB cb, .slice AuW (NB + 80) cuW], LI ++ [.slice As NS cs, .slice AuI (NS + 80) cuI], HPK7I.out, hK.hp, ?_, ?_, ?_, ?_⟩
                        · rcases hb with h | h | h | h | h
                          · exact .inl (by rw [h]; exact hK.hp)
                          · exact .inl (hW.lt b h).1
                          · exact .inr (.inl h)
                          · exact .inl (hI.lt b h).1
                          · exact .inr (.inr h)
                        · rw [show 2 * (n + 1) = NW + 1 + 1 by rw [ENW.out]; omega]
                          exact own_keep2 HROW7W.out (fun g hg => HON7I.out.block g (HROW7W.out.lt g hg).2 (fun hc => hc.elim (fun e => own_blkE HROW7W.out HPK7W.out (by decide) (by rw [hg, e])) (fun hc => hc.elim (fun e => own_ne HKI7.out HROW7W.out (by decide) g e hg) (fun e => own_ne HVS7.out HROW7W.out (by decide) g e hg))))
                        · rw [show 2 * (n + 1) = NW + 1 + 1 by rw [ENW.out]; omega]
                          exact HROW7I.out
                        · refine MkL.snoc2 (n := n) (c := NB) ((hK.mw.heap htot.size (fun g cs hs hb => htot.block g hb.lt (fun hc => ?_))).mono (fun g hg => .inl hg)) (by have h8 := hW.1; have h9 := ENW.out; omega) (by omega) (by rw [← EXW.out]; exact rd_heap HRV7W.out HON7I.out.size (fun g hg => by obtain ⟨cs, hb⟩ := HVT7W.out g hg; exact hfrI g cs hb)) (by rw [← EXW.out]; exact rd_heap HRU7W.out HON7I.out.size (fun g hg => by obtain ⟨cs, hb⟩ := HUT7W.out g hg; exact hfrI g cs hb)) (fun g hg => ⟨.inr (.inl hg), ?_⟩) (fun g hg => ⟨?_, ?_⟩)
                          · rcases hc with h | h | h | h | h
                            · rw [h] at hb; exact hb.ne_blk hK.blk (by decide) rfl
                            · exact own_blkE hws hb (by decide) h
                            · exact HNS1.out g h hs
                            · exact own_blkE his hb (by decide) h
                            · exact HNS2.out g h hs
                          · obtain ⟨cs, hb⟩ := HVT7W.out g hg; exact ⟨cs, (hfrI g cs hb).trans hb⟩
                          · rcases (HUOW.out g hg).1 with h | h
                            · exact .inr (.inl h)
                            · exact .inr (.inr (.inr (by omega)))
                          · obtain ⟨cs, hb⟩ := HUT7W.out g hg; exact ⟨cs, (hfrI g cs hb).trans hb⟩
                        · refine MkL.snoc2 (n := n) (c := NS) ((hK.mi.heap htot.size (fun g cs hs hb => htot.block g hb.lt (fun hc => ?_))).mono (fun g hg => .inl hg)) (by have h8 := hI.1; have h9 := ENW.out; omega) (by omega) (by rw [← EXI.out]; exact HRV7I.out) (by rw [← EXI.out]; exact HRU7I.out) (fun g hg => ⟨.inr (.inr (.inl hg)), HVT7I.out g hg⟩) (fun g hg => ⟨?_, HUT7I.out g hg⟩)
                          · rcases hc with h | h | h | h | h
                            · rw [h] at hb; exact hb.ne_blk hK.blk (by decide) rfl
                            · exact own_blkE hws hb (by decide) h
                            · exact HNS1.out g h hs
                            · exact own_blkE his hb (by decide) h
                            · exact HNS2.out g h hs
                          · rcases (HUOI.out g hg).1 with h | h
                            · exact .inr (.inr (.inl h))
                            · exact .inr (.inr (.inr (by omega)))
                      rw [E7.out] at hF
                      have HF := Lib.hid hF
                      clear hF
                      go_wp2_with fail
                      first | exact HF.out | (go_end0; exact HF.out)
end Go.Proofs.YtbfebfeliddpnaaDoor
