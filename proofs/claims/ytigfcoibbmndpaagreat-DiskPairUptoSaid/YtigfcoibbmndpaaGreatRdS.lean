/- The reference's Crash. -/
import Derived.Test.YtigfcoibbmndpaaGreatRdR
import Derived.Outline
namespace Go.Proofs.YtigfcoibbmndpaaGreat
open Go.RowKit
open Go.ChangeMaps
set_option linter.unusedVariables false
set_option linter.unusedSimpArgs false
def CrashRQ (P : Nat → Prop) (w : World) (r : Nat) (s : DSt) (wh : Int) (n : Nat) (e : Ending) (w' : World) : Prop := e = .returned (.tuple #[]) ∧ RStep P w w' r s wh n
theorem RRepX.lts {w : World} {r Bm Bs cm cs : Nat} {vc : Value} {G : Nat → Prop} {s : DSt} {C : List (Nat × List Int)} {wh : Int} (h : RRepX w r Bm Bs cm cs vc G s C wh) (b : Nat) (hb : ownR r Bm Bs G b) : b < w.heap.size := by
  rcases hb with rfl | rfl | rfl | hG
  · exact h.blk.lt
  · obtain ⟨mcur, m1, _⟩ := h.med; exact m1.lt
  · obtain ⟨mcur, m1, _⟩ := h.spo; exact m1.lt
  · exact (h.apart b hG).1
set_option maxHeartbeats 6000000 in
set_option maxRecDepth 100000 in
theorem rcrash_ok (P : Nat → Prop) (w : World) (r : Nat) (s : DSt) (wh : Int) (n : Nat) (pv : Value) (ps : List Int) (h : RRep P w r s wh n) (hr : RdN P w pv ps) (hpb : BytesL ps) (hpl : ps.length ≤ 9223372036854775807) (hn32 : n * 32 ≤ 1000000000000000) :
    Calls Tryz.prog 65 #[.pointer (some ⟨r, 0, none⟩), pv] w (CrashRQ P w r (crashS s ps) wh n) := by
  obtain ⟨Bm, Bs, cm, cs, vc, G, C, hx, hP, hl, hn⟩ := h
  obtain ⟨Q, eQ⟩ : ∃ Q, Q = CrashRQ P w r (crashS s ps) wh n := ⟨_, rfl⟩
  rw [← eQ]
  have EQ := Lib.hid eQ
  obtain ⟨L, eL⟩ : ∃ L, L = C.length := ⟨_, rfl⟩
  have EL := Lib.hid eL
  have hL : L ≤ 100000000000000 := by omega
  obtain ⟨Ac, cc, hvc⟩ : ∃ Ac cc, vc = .slice Ac L cc := by
    obtain ⟨hs', _, ho, _⟩ := hx.cac
    rw [eL]; exact own2_len ho
  have HVC := Lib.hid hvc
  obtain ⟨NB, eNB⟩ : ∃ NB, NB = s.nb := ⟨_, rfl⟩
  have ENB := Lib.hid eNB
  have hnb : NB ≤ 8192 := by rw [eNB]; exact hx.wf.nb2
  have c0 : w.cell? ⟨r, 0, none⟩ = some (.int .i64 NB) := by rw [eNB]; exact hx.blk.cell 0
  have hmk := fun w => run_make_row' (P := Tryz.prog) 33 3 (.int .i64 0) 8 Tryz.underlying33 info_int rfl .i64 .i64 NB (by omega) (by omega) w
  have HX := Lib.hid hx
  have HP := Lib.hid hP
  have HL := Lib.hid hl
  have HN := Lib.hid hn
  have HR := Lib.hid hr
  have HPB := Lib.hid hpb
  obtain ⟨Ap, cpp, hpv⟩ := hr.1.slice
  obtain ⟨PL, ePL⟩ : ∃ PL, PL = ps.length := ⟨_, rfl⟩
  have EPL := Lib.hid ePL
  rw [← ePL] at hpv hpl
  subst hpv
  clear hx hP hl hn eQ eL hvc eNB hr hpb ePL
  go_enter Tryz.func65, Tryz.ntmps65
  go_wp2_with fail
  obtain ⟨w2, e2⟩ : ∃ w2, w2 = w.alloc (.cells (madeCells #[.int .i64 0] NB) 3) := ⟨_, rfl⟩
  have hb2 : Below w.heap.size w w2 := by rw [e2]; exact (Below.refl _ _).alloc (Nat.le_refl _) _
  have hs2 : w2.heap.size = w.heap.size + 1 := by rw [e2]; simp
  have hr2 : RowA .i64 3 w2 w.heap.size NB (fun k => (seenN C 0 k : Int)) := by rw [e2]; exact (RowA.made .i64 3 w NB)
  rw [← e2]
  have HB2 := Lib.hid hb2
  have HR2 := Lib.hid hr2
  clear hb2 hr2 e2 c0
  go_loopw [5] (fun b wr => ∃ i : Nat, i ≤ L ∧ b = .int .i64 i ∧ RowA .i64 3 wr w.heap.size NB (fun k => (seenN C i k : Int)) ∧ Below w.heap.size w wr ∧ wr.heap.size = w.heap.size + 1) (fun b _ => L - (intOf b).toNat)
  case atStart => exact ⟨0, Nat.zero_le _, rfl, HR2.out, HB2.out, hs2⟩
  case round =>
    obtain ⟨i, hi, rfl, hrow, hb, hzi⟩ := hrel
    have hxi := HX.out.keep (w1 := wr) (fun b hb' => hb.block b (HX.out.lts b hb')) hb.size
    have c4 : wr.cell? ⟨r, 4, none⟩ = some (.slice Ac L cc) := by rw [← HVC.out]; exact hxi.blk.cell 4
    have HROW := Lib.hid hrow
    have HBI := Lib.hid hb
    have HZI := Lib.hid hzi
    clear hs2 hzi HR2
    by_cases hlt : i < L
    · obtain ⟨g, cap, b, ev, k1, _, _, _, hkk, _⟩ := hxi.item (by rw [← EL.out]; exact hlt)
      rw [HVC.out, ← EL.out] at ev
      simp only [Value.slice.injEq] at ev
      obtain ⟨rfl, _, rfl⟩ := ev
      have hsu := fun k => seenN_succ C i k (by rw [← EL.out]; exact hlt)
      have hsl : ∀ k, seenN C i k ≤ i := fun k => by
        unfold seenN partC
        rw [List.length_map]
        exact Nat.le_trans (List.length_filter_le _ _) (by rw [List.length_take]; omega)
      obtain ⟨X, eX⟩ : ∃ X, X = (C.getD i (0, [])).1 := ⟨_, rfl⟩
      rw [← eX] at k1 hkk hsu
      rw [← ENB.out] at hkk
      have fr := hrow.free X
      have kr := hrow.cell X hkk
      obtain ⟨y, ey⟩ : ∃ y, y = seenN C i X := ⟨_, rfl⟩
      have hy : y ≤ i := by rw [ey]; exact hsl X
      rw [← ey] at kr
      have m1 : IntKind.i64.wrap ((y : Int) + 1) = (y : Int) + 1 := IntWalk.i64_in _ (by omega)
      have HSU := Lib.hid hsu
      have EY := Lib.hid ey
      clear hrow hb hxi eX hsu ey hsl
      go_wp2_with fail
      go_roundw
      case rel =>
        refine ⟨i + 1, by omega, by go_num, (HROW.out.put X _).congr (fun k hk => ?_), HBI.out.setCell (Nat.le_refl _) _, by rw [size_setCell]; exact HZI.out⟩
        rw [HSU.out]
        by_cases e : k = X
        · subst e
          rw [if_pos rfl, if_pos rfl, ← EY.out]; omega
        · rw [if_neg e, if_neg (fun h => e h.symm)]
      case measure => simp [intOf] <;> omega
    · obtain rfl : L = i := by omega
      have hrow' : RowA .i64 3 wr w.heap.size NB (fun k => ((s.ca k).length : Int)) := hrow.congr (fun k _ => by rw [EL.out, seenN_all, HX.out.rel])
      have HTOT := Lib.hid hrow'
      have c0 : wr.cell? ⟨r, 0, none⟩ = some (.int .i64 NB) := by rw [ENB.out]; exact hxi.blk.cell 0
      have HXW := Lib.hid hxi
      clear hrow hb hxi HROW hrow'
      go_wp2_with fail
      obtain ⟨w3, e3⟩ : ∃ w3, w3 = wr.alloc (.cells (madeCells #[.int .i64 0] NB) 3) := ⟨_, rfl⟩
      obtain ⟨S, eS⟩ : ∃ S, S = wr.heap.size := ⟨_, rfl⟩
      have hb3 : Below w.heap.size w w3 := by rw [e3]; exact HBI.out.alloc (HBI.out.size) _
      have hs3 : w3.heap.size = w.heap.size + 2 := by rw [e3, size_alloc]; have := HZI.out; omega
      have hr3 : RowA .i64 3 w3 S NB (fun k => (seenN C 0 k : Int)) := by rw [e3, eS]; exact (RowA.made .i64 3 wr NB)
      have ht3 : RowA .i64 3 w3 w.heap.size NB (fun k => ((s.ca k).length : Int)) := by rw [e3]; exact HTOT.out.alloc _
      have hS : S = w.heap.size + 1 := by rw [eS]; exact HZI.out
      have hx3 : RRepX w3 r Bm Bs cm cs vc G s C wh := HX.out.keep (fun b hb' => hb3.block b (HX.out.lts b hb')) hb3.size
      rw [← e3, ← eS]
      have HB3 := Lib.hid hb3
      have HR3 := Lib.hid hr3
      have HT3 := Lib.hid ht3
      have HX3 := Lib.hid hx3
      have HS := Lib.hid hS
      have HS3 := Lib.hid hs3
      clear hb3 hr3 e3 c0 ht3 hx3 hS eS hs3 c4
      go_loopw [7] (fun b (wr : World) => ∃ i : Nat, i ≤ L ∧ b = .int .i64 i ∧ RowA .i64 3 wr S NB (fun k => (seenN C i k : Int)) ∧ RowA .i64 3 wr w.heap.size NB (fun k => ((s.ca k).length : Int)) ∧ OnlyP P w wr ∧ wr.heap.size = w.heap.size + 2 ∧ RRepX wr r Bm Bs cm cs vc G (midS s C (keepK s ps) i) C wh) (fun b _ => L - (intOf b).toNat)
      case atStart => exact ⟨0, Nat.zero_le _, rfl, HR3.out, HT3.out, OnlyP.ofBelow HB3.out, HS3.out, by rw [midS_zero]; exact HX3.out⟩
      case round =>
        obtain ⟨i, hi, rfl, hrow, htot, hon, hzq, hxq⟩ := hrel
        have c4 : wr.cell? ⟨r, 4, none⟩ = some (.slice Ac L cc) := by rw [← HVC.out]; exact hxq.blk.cell 4
        have HROW := Lib.hid hrow
        have HT := Lib.hid htot
        have HON := Lib.hid hon
        have HZQ := Lib.hid hzq
        have HXQ := Lib.hid hxq
        by_cases hlt : i < L
        · obtain ⟨g, cap, b, ev, k1, k2, hG, hdat, hkk, hln⟩ := hxq.item (by rw [← EL.out]; exact hlt)
          rw [HVC.out, ← EL.out] at ev
          simp only [Value.slice.injEq] at ev
          obtain ⟨rfl, _, rfl⟩ := ev
          have hsu := fun k => seenN_succ C i k (by rw [← EL.out]; exact hlt)
          have hsl : ∀ k, seenN C i k ≤ i := fun k => by
            unfold seenN partC
            rw [List.length_map]
            exact Nat.le_trans (List.length_filter_le _ _) (by rw [List.length_take]; omega)
          have hat2 := midS_not s C (keepK s ps) i (by rw [← EL.out]; exact hlt)
          have hlay := fun (w' : World) (hx' : RRepX w' r Bm Bs cm cs vc G (midS s C (keepK s ps) i) C wh) h (hd : RowA .u8 5 w' b s.sz (fun t => (C.getD i (0, [])).2.getD t 0)) => hx'.layIt (by rw [← EL.out]; exact hlt) HX.out.rel h hG hd hkk hln
          have hlay1 := fun (w' : World) (hx' : RRepX w' r Bm Bs cm cs vc G (midS s C (keepK s ps) i) C wh) (hd : RowA .u8 5 w' b s.sz (fun t => (C.getD i (0, [])).2.getD t 0)) => hx'.laidG (k := (C.getD i (0, [])).1) hkk hln hG hd
          obtain ⟨xd, exd⟩ : ∃ xd, xd = (C.getD i (0, [])).2 := ⟨_, rfl⟩
          obtain ⟨X, eX⟩ : ∃ X, X = (C.getD i (0, [])).1 := ⟨_, rfl⟩
          rw [← exd] at hdat hlay hlay1
          rw [← eX] at k1 hkk hsu hat2 hlay hlay1
          have hkN : X < NB := by rw [ENB.out]; exact hkk
          have fr := hrow.free X
          have kr := hrow.cell X hkN
          obtain ⟨y, ey⟩ : ∃ y, y = seenN C i X := ⟨_, rfl⟩
          have hy : y ≤ i := by rw [ey]; exact hsl X
          rw [← ey] at kr hat2 hlay
          have m1 : IntKind.i64.wrap ((y : Int) + 1) = (y : Int) + 1 := IntWalk.i64_in _ (by omega)
          obtain ⟨tot, etot⟩ : ∃ tot, tot = (s.ca X).length := ⟨_, rfl⟩
          obtain ⟨kp, ekp⟩ : ∃ kp, kp = keepK s ps X := ⟨_, rfl⟩
          have htl : tot ≤ L := by rw [etot, HX.out.rel, EL.out]; unfold partC; rw [List.length_map]; exact List.length_filter_le _ _
          have hkl : kp ≤ tot := by rw [ekp, etot]; exact keepP_le _ _ _
          -- the world behind seen[b]++
          have hx1 : RRepX (wr.setCell ⟨S, X, none⟩ (.int .i64 ((y : Int) + 1))) r Bm Bs cm cs vc G (midS s C (keepK s ps) i) C wh := hxq.keep (fun b' hb' => Below.heap_setCell wr ⟨S, X, none⟩ _ b' (by
            have hlt' : b' < w.heap.size := HX.out.lts b' hb'
            have := HS.out
            show b' ≠ S
            omega)) (by rw [size_setCell]; exact Nat.le_refl _)
          have hrow1 : RowA .i64 3 (wr.setCell ⟨S, X, none⟩ (.int .i64 ((y : Int) + 1))) S NB (fun k => (seenN C (i + 1) k : Int)) := (hrow.put X _).congr (fun k hk => by
            rw [hsu]
            by_cases e : k = X
            · subst e
              rw [if_pos rfl, if_pos rfl, ← ey]; omega
            · rw [if_neg e, if_neg (fun h => e h.symm)])
          have htot1 : RowA .i64 3 (wr.setCell ⟨S, X, none⟩ (.int .i64 ((y : Int) + 1))) w.heap.size NB (fun k => ((s.ca k).length : Int)) := htot.far (p := ⟨S, X, none⟩) (by have := HS.out; show w.heap.size ≠ S; omega) _
          have hon1 : OnlyP P w (wr.setCell ⟨S, X, none⟩ (.int .i64 ((y : Int) + 1))) := hon.set (p := ⟨S, X, none⟩) (.inr (by have := HS.out; show w.heap.size ≤ S; omega)) _
          have hbS : b ≠ S := by have := hxq.lts b (.inr (.inr (.inr hG))); have h2 := HX.out.lts b (.inr (.inr (.inr hG))); have := HS.out; omega
          have hgS : ∀ o, (wr.setCell ⟨S, X, none⟩ (.int .i64 ((y : Int) + 1))).cell? ⟨g, o, none⟩ = wr.cell? ⟨g, o, none⟩ := fun o => cell_of_heap (Below.heap_setCell wr ⟨S, X, none⟩ _ g (by
            have hg' : G g := hxq.vco g (by rw [HVC.out]; rfl)
            have h2 := HX.out.lts g (.inr (.inr (.inr hg')))
            have := HS.out
            show g ≠ S
            omega)) o
          have hdat1 : RowA .u8 5 (wr.setCell ⟨S, X, none⟩ (.int .i64 ((y : Int) + 1))) b s.sz (fun t => xd.getD t 0) := hdat.far (p := ⟨S, X, none⟩) hbS _
          have tk : (wr.setCell ⟨S, X, none⟩ (.int .i64 ((y : Int) + 1))).cell? ⟨w.heap.size, X, none⟩ = some (.int .i64 (tot : Int)) := by rw [etot]; exact htot1.cell X hkN
          have hkp : ∀ m, Calls Tryz.prog 86 #[.slice Ap PL cpp, .int .i64 X, .int .i64 (tot : Int)] ((wr.setCell ⟨S, X, none⟩ (.int .i64 ((y : Int) + 1))).drewN m) (fun e w' => e = .returned (.int .i64 (kp : Int)) ∧ ∃ m', w' = (wr.setCell ⟨S, X, none⟩ (.int .i64 ((y : Int) + 1))).drewN m') := fun m => by
            have hrd : Rd .u8 ((wr.setCell ⟨S, X, none⟩ (.int .i64 ((y : Int) + 1))).drewN m) (.slice Ap PL cpp) ps := HR.out.only (hon1.drewN m)
            refine (rkeep_ok _ _ ps X tot hrd HPB.out (by rw [← EPL.out]; exact hpl) (by omega) (by omega)).mono ?_
            rintro e w' ⟨rfl, m', rfl⟩
            exact ⟨by rw [ekp, etot]; rfl, m + m', by rw [World.drewN_drewN]⟩
          have k2a : (wr.setCell ⟨S, X, none⟩ (.int .i64 ((y : Int) + 1))).cell? ⟨g, i * 2 + 1, none⟩ = some (.slice (some ⟨b, 0, none⟩) s.sz s.sz) := (hgS _).trans k2
          have k2b : (wr.setCell ⟨S, X, none⟩ (.int .i64 ((y : Int) + 1))).cell? ⟨r, 4, none⟩ = some (.slice (some ⟨g, 0, none⟩) L cc) := by rw [← HVC.out]; exact hx1.blk.cell 4
          have ky : (wr.setCell ⟨S, X, none⟩ (.int .i64 ((y : Int) + 1))).cell? ⟨S, X, none⟩ = some (.int .i64 ((y : Int) + 1)) := by
            have h9 : _ = some (Value.int .i64 ((seenN C (i + 1) X : Nat) : Int)) := hrow1.cell X hkN
            rw [hsu, if_pos rfl, ← ey] at h9
            exact h9
          obtain ⟨w5, e5⟩ : ∃ w5, w5 = wr.setCell ⟨S, X, none⟩ (.int .i64 ((y : Int) + 1)) := ⟨_, rfl⟩
          rw [← e5] at hx1 hrow1 htot1 hon1 hdat1 tk hkp k2a k2b ky
          have hz5 : w5.heap.size = w.heap.size + 2 := by rw [e5, size_setCell]; exact hzq
          have E5 := Lib.hid e5
          have HX1 := Lib.hid hx1
          have HROW1 := Lib.hid hrow1
          have HTOT1 := Lib.hid htot1
          have HON1 := Lib.hid hon1
          have HDAT1 := Lib.hid hdat1
          have HTK := Lib.hid tk
          have HKP := Lib.hid hkp
          have HK2a := Lib.hid k2a
          have HK2b := Lib.hid k2b
          have HKY := Lib.hid ky
          have HZ5 := Lib.hid hz5
          have HAT2 := Lib.hid hat2
          have HLAY := Lib.hid hlay
          have HLAY1 := Lib.hid hlay1
          have EKP := Lib.hid ekp
          have ETOT := Lib.hid etot
          have EY := Lib.hid ey
          have EXX := Lib.hid eX
          have HGG := Lib.hid hG
          clear hrow htot hon hzq hxq hx1 hrow1 htot1 hon1 hdat1 tk hkp k2a k2b ky hz5 hat2 hlay hlay1 ekp etot ey eX hG hdat hln k2 hsu hsl hgS e5 exd hbS HT HROW HON HZQ HTOT HXW
          go_upto_region 11 with (fail)
          rw [← E5.out]
          have tk := HTK.out
          go_wp2_with fail
          refine (HKP.out 0).mono ?_
          rintro e w' ⟨rfl, m', rfl⟩
          obtain ⟨w6, e6⟩ : ∃ w6, w6 = w5.drewN m' := ⟨_, rfl⟩
          rw [← e6]
          have hx6 : RRepX w6 r Bm Bs cm cs vc G (midS s C (keepK s ps) i) C wh := by rw [e6]; exact HX1.out.keep (fun _ _ => rfl) (Nat.le_refl _)
          have hd6 : RowA .u8 5 w6 b s.sz (fun t => xd.getD t 0) := by rw [e6]; exact HDAT1.out
          have hr6 : RowA .i64 3 w6 S NB (fun k => (seenN C (i + 1) k : Int)) := by rw [e6]; exact HROW1.out
          have ht6 : RowA .i64 3 w6 w.heap.size NB (fun k => ((s.ca k).length : Int)) := by rw [e6]; exact HTOT1.out
          have ho6 : OnlyP P w w6 := by rw [e6]; exact HON1.out.drewN _
          have hz6 : w6.heap.size = w.heap.size + 2 := by rw [e6]; exact HZ5.out
          have y6 : w6.cell? ⟨S, X, none⟩ = some (.int .i64 ((y : Int) + 1)) := by rw [e6]; exact HKY.out
          have k26 : w6.cell? ⟨g, i * 2 + 1, none⟩ = some (.slice (some ⟨b, 0, none⟩) s.sz s.sz) := by rw [e6]; exact HK2a.out
          have k46 : w6.cell? ⟨r, 4, none⟩ = some (.slice (some ⟨g, 0, none⟩) L cc) := by rw [e6]; exact HK2b.out
          have HX6 := Lib.hid hx6
          have HD6 := Lib.hid hd6
          have HR6 := Lib.hid hr6
          have HT6 := Lib.hid ht6
          have HO6 := Lib.hid ho6
          have HZ6 := Lib.hid hz6
          have K26 := Lib.hid k26
          have K46 := Lib.hid k46
          clear hx6 hd6 hr6 ht6 ho6 hz6 e6 tk fr kr k1 c4 k26 k46 HK2a HK2b HKY HZ5 HON1 HTOT1 HROW1 HDAT1 HX1 HKP HTK
          by_cases hle : y + 1 ≤ kp
          · have tle : ((y : Int) + 1 ≤ (kp : Int)) := by omega
            go_upto_region 13 with (fail)
            obtain ⟨wd, ewd⟩ : ∃ wd, wd = w6.drew := ⟨_, rfl⟩
            have hxd : RRepX wd r Bm Bs cm cs vc G (midS s C (keepK s ps) i) C wh := by rw [ewd]; exact HX6.out.keep (fun _ _ => rfl) (Nat.le_refl _)
            have hdd : RowA .u8 5 wd b s.sz (fun t => xd.getD t 0) := by rw [ewd]; exact HD6.out
            have hx5 := HLAY.out wd hxd (by rw [← EKP.out]; exact hle) hdd
            have hx4 := HLAY1.out wd hxd hdd
            have hr5 : RowA .i64 3 wd S NB (fun k => (seenN C (i + 1) k : Int)) := by rw [ewd]; exact HR6.out
            have ht5 : RowA .i64 3 wd w.heap.size NB (fun k => ((s.ca k).length : Int)) := by rw [ewd]; exact HT6.out
            have ho5 : OnlyP P w wd := by rw [ewd]; exact HO6.out.drew
            have hz5 : wd.heap.size = w.heap.size + 2 := by rw [ewd]; exact HZ6.out
            have c2 : w6.cell? ⟨r, 2, none⟩ = some (.slice (some ⟨Bm, 0, none⟩) NB cm) := by rw [ENB.out]; exact HX6.out.blk.cell 2
            obtain ⟨mcur, m1, m2, m3⟩ := HX6.out.med
            obtain ⟨scur, t1, t2, t3⟩ := HX6.out.spo
            have hmlt : Bm < w.heap.size := HX.out.lts Bm (.inr (.inl rfl))
            have hslt : Bs < w.heap.size := HX.out.lts Bs (.inr (.inr (.inl rfl)))
            have fm := m1.free X
            obtain ⟨u, mu, _⟩ := m3 X hkk
            have km : w6.cell? ⟨Bm, X, none⟩ = some u := (m1.cell X).trans mu
            have kmd : wd.cell? ⟨Bm, X, none⟩ = some u := by rw [ewd]; exact km
            have fmd : wd.frozen? ⟨Bm, X, none⟩ = false := by rw [ewd]; exact fm
            have EWD := Lib.hid ewd
            have HX5 := Lib.hid hx5
            have HX4 := Lib.hid hx4
            have HR5 := Lib.hid hr5
            have HT5 := Lib.hid ht5
            have HO5 := Lib.hid ho5
            have HZ5 := Lib.hid hz5
            obtain ⟨SZ, eSZ⟩ : ∃ SZ, SZ = s.sz := ⟨_, rfl⟩
            have k26 := K26.out
            have k46 := K46.out
            have HX5' : Hid (RRepX ((wd.setCell ⟨Bm, X, none⟩ (.slice (some ⟨b, 0, none⟩) SZ SZ)).setCell ⟨Bs, X, none⟩ (.bool false)) r Bm Bs cm cs vc G (midS s C (keepK s ps) (i + 1)) C wh) := by rw [eSZ]; exact HX5
            have HX4' : Hid (RRepX (wd.setCell ⟨Bm, X, none⟩ (.slice (some ⟨b, 0, none⟩) SZ SZ)) r Bm Bs cm cs vc G { midS s C (keepK s ps) i with dur := layD (midS s C (keepK s ps) i).dur X xd } C wh) := by rw [eSZ]; exact HX4
            rw [← eSZ] at k26
            clear ewd hxd hdd hx5 hx4 hr5 ht5 ho5 hz5 m1 m2 m3 t1 t2 t3 mu HX5 HX4 eSZ kmd fmd
            go_still_tail 13, (by kernel_rfl)
            change wpList _ _ _ _ _ w6.drew
            rw [← EWD.out]
            have kmd : wd.cell? ⟨Bm, X, none⟩ = some u := by rw [EWD.out]; exact km
            have fmd : wd.frozen? ⟨Bm, X, none⟩ = false := by rw [EWD.out]; exact fm
            go_upto_region 14 with (fail)
            obtain ⟨w4, e4⟩ : ∃ w4, w4 = wd.setCell ⟨Bm, X, none⟩ (.slice (some ⟨b, 0, none⟩) SZ SZ) := ⟨_, rfl⟩
            rw [← e4] at HX5' HX4' ⊢
            obtain ⟨scur', q1, q2, q3⟩ := HX4'.out.spo
            have c3 : w4.cell? ⟨r, 3, none⟩ = some (.slice (some ⟨Bs, 0, none⟩) NB cs) := by rw [ENB.out]; exact HX4'.out.blk.cell 3
            have fs := q1.free X
            have ks : w4.cell? ⟨Bs, X, none⟩ = some (.bool _) := (q1.cell X).trans (q3 X hkk)
            have hr4 : RowA .i64 3 (w4.setCell ⟨Bs, X, none⟩ (.bool false)) S NB (fun k => (seenN C (i + 1) k : Int)) := by
              rw [e4]; exact (HR5.out.far (p := ⟨Bm, X, none⟩) (by have := HS.out; show S ≠ Bm; omega) _).far (p := ⟨Bs, X, none⟩) (by have := HS.out; show S ≠ Bs; omega) _
            have ht4 : RowA .i64 3 (w4.setCell ⟨Bs, X, none⟩ (.bool false)) w.heap.size NB (fun k => ((s.ca k).length : Int)) := by
              rw [e4]; exact (HT5.out.far (p := ⟨Bm, X, none⟩) (by show w.heap.size ≠ Bm; omega) _).far (p := ⟨Bs, X, none⟩) (by show w.heap.size ≠ Bs; omega) _
            have ho4 : OnlyP P w (w4.setCell ⟨Bs, X, none⟩ (.bool false)) := by
              rw [e4]
              exact (HO5.out.set (p := ⟨Bm, X, none⟩) (.inl (HP.out Bm (.inr (.inl rfl)))) _).set (p := ⟨Bs, X, none⟩) (.inl (HP.out Bs (.inr (.inr (.inl rfl))))) _
            have hz4 : (w4.setCell ⟨Bs, X, none⟩ (.bool false)).heap.size = w.heap.size + 2 := by rw [size_setCell, e4, size_setCell]; exact HZ5.out
            have HR4 := Lib.hid hr4
            have HT4 := Lib.hid ht4
            have HO4 := Lib.hid ho4
            have HZ4 := Lib.hid hz4
            clear hr4 ht4 ho4 hz4 e4 q1 q2 q3 kmd fmd km fm c2 k26 k46 HX4' hmlt hslt hle
            go_wp2_with fail
            go_roundw
            case rel => exact ⟨i + 1, by omega, by go_num, HR4.out, HT4.out, HO4.out, HZ4.out, HX5'.out⟩
            case measure => simp [intOf] <;> omega
          · have tle : ¬ ((y : Int) + 1 ≤ (kp : Int)) := by omega
            have h2 := HAT2.out (by rw [← EKP.out]; exact hle)
            have HX7 := Lib.hid (show RRepX w6 r Bm Bs cm cs vc G (midS s C (keepK s ps) (i + 1)) C wh by rw [h2]; exact HX6.out)
            clear h2 hle
            go_wp2_with fail
            go_roundw
            case rel => exact ⟨i + 1, by omega, by go_num, HR6.out, HT6.out, HO6.out, HZ6.out, HX7.out⟩
            case measure => simp [intOf] <;> omega
        · obtain rfl : L = i := by omega
          have f4 := hxq.blk.free 4
          have hxe := hxq.emptied
          obtain ⟨sm, esm⟩ : ∃ sm : DSt, sm = { midS s C (keepK s ps) L with ca := fun _ => [] } := ⟨_, rfl⟩
          rw [← esm] at hxe
          have hsm : sm = allS s (keepK s ps) := by rw [esm, EL.out]; exact midS_end s C (keepK s ps) HX.out.rel (fun k => keepP_le _ _ _)
          rw [hsm] at hxe
          have e5 : (wr.setCell ⟨r, 4, none⟩ (.slice none 0 0)).cell? ⟨r, 5, none⟩ = some (.bool (!s.off)) := hxe.blk.cell 5
          have f5 := hxe.blk.free 5
          have hb6 := hxe.blk.set 5 (.bool true)
          have e6 : ((wr.setCell ⟨r, 4, none⟩ (.slice none 0 0)).setCell ⟨r, 5, none⟩ (.bool true)).cell? ⟨r, 6, none⟩ = some (.int .i64 (if s.fused = true then s.fuse else -1)) := hb6.cell 6
          have f6 := hb6.free 6
          have hb7 := hb6.set 6 (.int .i64 (-1))
          have hF : Q (.returned (.tuple #[])) (((wr.setCell ⟨r, 4, none⟩ (.slice none 0 0)).setCell ⟨r, 5, none⟩ (.bool true)).setCell ⟨r, 6, none⟩ (.int .i64 (-1))) := by
            rw [EQ.out]
            have ho7 : OneD (wr.setCell ⟨r, 4, none⟩ (.slice none 0 0)) (((wr.setCell ⟨r, 4, none⟩ (.slice none 0 0)).setCell ⟨r, 5, none⟩ (.bool true)).setCell ⟨r, 6, none⟩ (.int .i64 (-1))) r := ((OneD.refl _ _).set _ _).set _ _
            have hwf := hxe.wf
            have hx7 := hxe.cells (s1 := crashS s ps) (wh1 := wh) hb7 (fun b hb => ho7.2.2.2.2 b hb) ho7.2.2.2.1 ⟨hwf.nb1, hwf.nb2, hwf.sz0, hwf.sz1, hwf.dl, hwf.cl, hwf.cn, hwf.f0, hwf.f1⟩ rfl rfl rfl rfl rfl
            have hrP := HP.out r (.inl rfl)
            refine ⟨rfl, ((HON.out.set (p := ⟨r, 4, none⟩) (.inl hrP) _).set (p := ⟨r, 5, none⟩) (.inl hrP) _).set (p := ⟨r, 6, none⟩) (.inl hrP) _, P, ⟨Bm, Bs, cm, cs, _, G, [], hx7, HP.out, fun b hb => ?_, Nat.zero_le _⟩, fun b hb => .inl hb⟩
            rw [size_setCell, size_setCell, size_setCell, HZQ.out]
            have := HL.out b hb; omega
          have HF := Lib.hid hF
          have E5 := Lib.hid e5
          have F5 := Lib.hid f5
          have E6 := Lib.hid e6
          have F6 := Lib.hid f6
          clear hF hxe hsm esm e5 f5 e6 f6 hb6 hb7 hxq hrow htot hon hzq
          go_upto_region 16 with (fail)
          have e5 := E5.out
          have f5 := F5.out
          go_upto_region 17 with (fail)
          clear e5 f5
          obtain ⟨yy, eyy⟩ : ∃ yy : Int, yy = if s.fused = true then s.fuse else -1 := ⟨_, rfl⟩
          have e6 := E6.out
          have f6 := F6.out
          rw [← eyy] at e6
          clear eyy
          go_wp2_with fail
          first | exact HF.out | (go_end0; exact HF.out)
end Go.Proofs.YtigfcoibbmndpaaGreat
