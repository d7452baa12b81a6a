/- The reference's Cached: which blocks have cached writes. -/
import Derived.Test.YtigfcoibbmndpaaGreatRdS
import Derived.Outline
namespace Go.Proofs.YtigfcoibbmndpaaGreat
open Go.RowKit
open Go.ChangeMaps
set_option linter.unusedVariables false
set_option linter.unusedSimpArgs false
theorem keysL_succ (P : Nat → Bool) (n : Nat) : keysL P (n + 1) = if P n = true then keysL P n ++ [(n : Int)] else keysL P n := by
  unfold keysL
  rw [List.range_succ, List.filter_append, List.map_append]
  cases h : P n <;> simp [h]
def RCachedQ (w : World) (s : DSt) (e : Ending) (w' : World) : Prop :=
  ∃ v, e = .returned v ∧ w'.ownsRow w.heap.size 3 1 v (cachedL s).length ((cachedL s).map (Value.int .i64)) ∧ Below w.heap.size w w'
theorem info_bool : (Tryz.prog.info? 4).map (fun i => (i.zero, i.size, i.bytes)) = some (some (.bool false), 1, 1) := by kernel_rfl
set_option maxHeartbeats 4000000 in
set_option maxRecDepth 100000 in
theorem rcachedL_ok (P : Nat → Prop) (w : World) (r : Nat) (s : DSt) (wh : Int) (n : Nat) (h : RRep P w r s wh n) (hn32 : n * 32 ≤ 140737488355328) :
    Calls Tryz.prog 41 #[.pointer (some ⟨r, 0, none⟩)] w (RCachedQ w s) := by
  obtain ⟨Bm, Bs, cm, cs, vc, G, C, hx, hP, hl, hn⟩ := h
  obtain ⟨Q, eQ⟩ : ∃ Q, Q = RCachedQ w s := ⟨_, rfl⟩
  rw [← eQ]
  have EQ := Lib.hid eQ
  obtain ⟨L, eL⟩ : ∃ L, L = C.length := ⟨_, rfl⟩
  have EL := Lib.hid eL
  have hL : L ≤ 140737488355328 := by omega
  obtain ⟨Ac, cc, hvc⟩ : ∃ Ac cc, vc = .slice Ac L cc := by
    obtain ⟨hs', _, ho, _⟩ := hx.cac
    rw [eL]; exact own2_len ho
  have HVC := Lib.hid hvc
  obtain ⟨NB, eNB⟩ : ∃ NB, NB = s.nb := ⟨_, rfl⟩
  have ENB := Lib.hid eNB
  have hnb : NB ≤ 8192 := by rw [eNB]; exact hx.wf.nb2
  have c0 : w.cell? ⟨r, 0, none⟩ = some (.int .i64 NB) := by rw [eNB]; exact hx.blk.cell 0
  have hmk := fun w => run_make_row' (P := Tryz.prog) 46 4 (.bool false) 1 Tryz.underlying46 info_bool rfl .i64 .i64 NB (by omega) (by omega) w
  have HX := Lib.hid hx
  clear hx hP hl hn eQ eL hvc eNB
  go_enter Tryz.func41, Tryz.ntmps41
  go_wp2_with fail
  obtain ⟨w2, e2⟩ : ∃ w2, w2 = w.alloc (.cells (madeCells #[.bool false] NB) 4) := ⟨_, rfl⟩
  have hb2 : Below w.heap.size w w2 := by rw [e2]; exact (Below.refl _ _).alloc (Nat.le_refl _) _
  have hs2 : w2.heap.size = w.heap.size + 1 := by rw [e2]; simp
  have hr2 : RowV 4 w2 w.heap.size NB (fun k => .bool (decide (seenN C 0 k ≠ 0))) := by rw [e2]; exact (RowV.made (.bool false) 4 w NB)
  rw [← e2]
  have HB2 := Lib.hid hb2
  have HR2 := Lib.hid hr2
  clear hb2 hr2 e2
  go_loopw [4] (fun b wr => ∃ i : Nat, i ≤ L ∧ b = .int .i64 i ∧ RowV 4 wr w.heap.size NB (fun k => .bool (decide (seenN C i k ≠ 0))) ∧ Below w.heap.size w wr) (fun b _ => L - (intOf b).toNat)
  case atStart => exact ⟨0, Nat.zero_le _, rfl, HR2.out, HB2.out⟩
  case round =>
    obtain ⟨i, hi, rfl, hrow, hb⟩ := hrel
    have hxi := HX.out.keep (w1 := wr) (fun b hb' => hb.block b (by
      rcases hb' with rfl | rfl | rfl | hG
      · exact HX.out.blk.lt
      · obtain ⟨mcur, m1, _⟩ := HX.out.med; exact m1.lt
      · obtain ⟨mcur, m1, _⟩ := HX.out.spo; exact m1.lt
      · exact (HX.out.apart b hG).1)) hb.size
    have c4 : wr.cell? ⟨r, 4, none⟩ = some (.slice Ac L cc) := by rw [← HVC.out]; exact hxi.blk.cell 4
    have HROW := Lib.hid hrow
    have HBI := Lib.hid hb
    by_cases hlt : i < L
    · obtain ⟨g, cap, b, ev, k1, _, _, _, hkk, _⟩ := hxi.item (by rw [← EL.out]; exact hlt)
      rw [HVC.out, ← EL.out] at ev
      simp only [Value.slice.injEq] at ev
      obtain ⟨rfl, _, rfl⟩ := ev
      have hsu := fun k => seenN_succ C i k (by rw [← EL.out]; exact hlt)
      obtain ⟨X, eX⟩ : ∃ X, X = (C.getD i (0, [])).1 := ⟨_, rfl⟩
      rw [← eX] at k1 hkk hsu
      rw [← ENB.out] at hkk
      have fr := hrow.free X
      have kr := hrow.cell X hkk
      have HSU := Lib.hid hsu
      clear hrow hb hxi eX hsu
      go_wp2_with fail
      go_roundw
      case rel =>
        refine ⟨i + 1, by omega, by go_num, (HROW.out.put X (.bool true)).congr (fun k hk => ?_), HBI.out.setCell (Nat.le_refl _) _⟩
        rw [HSU.out]
        by_cases e : k = X
        · rw [if_pos e, if_pos e.symm]; simp
        · rw [if_neg e, if_neg (fun h => e h.symm)]
      case measure => simp [intOf] <;> omega
    · obtain rfl : L = i := by omega
      have hrow' : RowV 4 wr w.heap.size NB (fun k => .bool (hasC s k)) := hrow.congr (fun k _ => by unfold hasC; rw [EL.out, seenN_all, HX.out.rel])
      have HROW' := Lib.hid hrow'
      clear hrow hb hxi HROW hrow' HR2
      go_wp2_with fail
      go_loopw [5, 6] (fun v b wr => ∃ t : Nat, t ≤ NB ∧ b = .int .i64 t ∧ RowV 4 wr w.heap.size NB (fun k => .bool (hasC s k)) ∧ Below w.heap.size w wr ∧ wr.ownsRow (w.heap.size + 1) 3 1 v (keysL (hasC s) t).length ((keysL (hasC s) t).map (Value.int .i64))) (fun _ b _ => NB - (intOf b).toNat)
      case atStart => exact ⟨0, Nat.zero_le _, rfl, HROW'.out, HBI.out, World.ownsRow_nil _ _ _ _⟩
      case round =>
        obtain ⟨t, ht, rfl, hrow, hb, hown⟩ := hrel
        have hsz : w.heap.size + 1 ≤ wr.heap.size := by have := hrow.lt; omega
        have c0' : wr.cell? ⟨r, 0, none⟩ = some (.int .i64 NB) := by rw [ENB.out]; exact (HX.out.blk.below hb HX.out.blk.lt).cell 0
        have HROW := Lib.hid hrow
        have HB := Lib.hid hb
        have HOWN := Lib.hid hown
        by_cases hlt : t < NB
        · have kr := hrow.cell t hlt
          have hks := keysL_succ (hasC s) t
          have HKS := Lib.hid hks
          obtain ⟨n1, en1⟩ : ∃ n1, n1 = (keysL (hasC s) t).length := ⟨_, rfl⟩
          have hn1 : n1 ≤ t := by rw [en1]; exact keysL_len _ _
          obtain ⟨bb, ebb⟩ : ∃ bb, bb = hasC s t := ⟨_, rfl⟩
          rw [← ebb] at kr hks
          have EN1 := Lib.hid en1
          rw [← en1] at hown
          have HO := Lib.hid hown
          have EBB := Lib.hid ebb
          clear hrow hb hown hks en1 ebb
          cases bb
          · go_wp2_with fail
            go_roundw
            case rel => exact ⟨t + 1, by omega, by go_num, HROW.out, HB.out, by rw [HKS.out, ← EBB.out, if_neg (by simp)]; exact HOWN.out⟩
            case measure => simp [intOf] <;> omega
          · go_wp2_with (with_reducible refine app1 rfl (.tmp 43) (.tmp 45) 33 rfl (w.heap.size + 1) 3 (.int .i64 0) 8 Tryz.underlying33 info_int rfl _ n1 _ rfl HO.out (.int .i64 t) 1 rfl rfl ?c1 ?c2 ?c3 ?_)
            case c1 => unfold maxLen; omega
            case c2 => omega
            case c3 => exact hsz
            intro v4 w4 ho4 hg4
            have hb4 : Below w.heap.size w w4 := HB.out.trans (below_grown HO.out hg4 (by omega) (by omega))
            have hr4 : RowV 4 w4 w.heap.size NB (fun k => .bool (hasC s k)) := HROW.out.keep (hg4.block w.heap.size HROW.out.lt (fun e => by
              have := (HO.out.lt _ e.symm).1; omega))
            have ho5 : w4.ownsRow (w.heap.size + 1) 3 1 v4 (keysL (hasC s) (t + 1)).length ((keysL (hasC s) (t + 1)).map (Value.int .i64)) := by
              rw [HKS.out, ← EBB.out, if_pos rfl, List.length_append, List.map_append, ← EN1.out]; exact ho4
            have HB4 := Lib.hid hb4
            have HR4 := Lib.hid hr4
            have HO5 := Lib.hid ho5
            clear hb4 hr4 ho5 ho4 hg4
            go_wp2_with fail
            go_roundw
            case rel => exact ⟨t + 1, by omega, by go_num, HR4.out, HB4.out, HO5.out⟩
            case measure => simp [intOf] <;> omega
        · obtain rfl : NB = t := by omega
          have hF : ∀ v, wr.ownsRow (w.heap.size + 1) 3 1 v (keysL (hasC s) NB).length ((keysL (hasC s) NB).map (Value.int .i64)) → Q (.returned v) wr := fun v hv => by
            rw [EQ.out]
            refine ⟨v, rfl, ?_, HB.out⟩
            unfold cachedL
            rw [← ENB.out]
            refine ⟨hv.1, ?_⟩
            rcases hv.2 with h | ⟨g, cap, cur, e, a1, a2⟩
            · exact .inl h
            · exact .inr ⟨g, cap, cur, e, by omega, a2⟩
          have HF := Lib.hid (hF _ hown)
          clear hF hrow hb hown
          go_wp2_with fail
          first | exact HF.out | (go_ret; exact HF.out)
end Go.Proofs.YtigfcoibbmndpaaGreat
