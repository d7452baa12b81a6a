/- The reference's cut: the tokens. -/
import Derived.Test.YtbfebfeliddpnaaDoorRnL
import Derived.Outline
import Derived.Deep.CutRange
import Derived.Deep.AppendLies
namespace Go.Proofs.YtbfebfeliddpnaaDoor
open Go.RowKit
open Go.ChangeMaps
set_option linter.unusedVariables false
set_option linter.unusedSimpArgs false
theorem app2 {P : Program} {ops : Array Oper} {rest : List Oper} {o : Oper} {a : Act} {Q : Exit → Act → World → Prop} {W : World} (hgd : o.guard = none) (s x : Operand) (t : TypeId)
    (ho : o.op = .call { callee := .builtin .append, args := #[s, x], argTypes := #[t, t] }) (B : Nat) (e : TypeId) (z : Value) (bytes : Nat) (ht : P.underlying t = some (.slice e))
    (hinfo : (P.info? e).map (fun i => (i.zero, i.size, i.bytes)) = some (some z, 2, bytes)) (hz : z.cells.size = 2) (v : Value) (n : Nat) (xs : List Value) (hs : a.eval s = v) (hown : W.ownsRow B e 2 v n xs)
    (u0 u1 : Value) (c : Nat) (hx : a.eval x = .slice (some ⟨W.heap.size, 0, none⟩) 1 c) (hu0 : u0.oneCell' = true) (hu1 : u1.oneCell' = true) (hn : n + 1 ≤ maxLen) (hb : (n + 1) * bytes ≤ 140737488355328) (hB : B ≤ W.heap.size)
    (h : ∀ v' w', w'.ownsRow B e 2 v' (n + 1) (xs ++ [u0, u1]) → W.grownBy w' v.ownBlock → wpList P ops Q rest (a.put o.dst v') w') : wpList P ops Q (o :: rest) a (W.alloc (.cells #[u0, u1] e)) := by
  obtain ⟨i, hi, hzz⟩ := Option.map_eq_some_iff.1 hinfo
  simp only [Prod.mk.injEq] at hzz
  obtain ⟨h0, h1, h2⟩ := hzz
  refine wpList_append_own _ hgd s x t ho B e i z 2 bytes ht hi h0 h1 h2 hz (by decide) v n xs hs (hown.alloc _) ⟨W.heap.size, 0, none⟩ 1 c [u0, u1] hx rfl ?_ ?_ hn hb (by rw [size_alloc]; omega) ?_
  · exact World.news_of_block (cs := #[u0, u1]) (t := e) (fr := (0, 0)) (Blk.new W e #[u0, u1])
  · intro u' hu'
    simp only [List.mem_cons, List.not_mem_nil, or_false] at hu'
    rcases hu' with rfl | rfl
    · exact hu0
    · exact hu1
  · intro v' w' h3 h4 _
    refine h v' w' h3 (grown_alloc h4 ?_)
    intro e1
    have := (hown.lt W.heap.size e1).2
    omega
theorem info_tok : (Tryd.prog.info? 60).map (fun i => (i.zero, i.size, i.bytes)) = some (some (.agg #[.string ByteArray.empty, .int .i64 0]), 2, 24) := by kernel_rfl
def flatT (s : ByteArray) : List Tk → List Value
  | [] => []
  | t :: l => .string (t.tx s) :: .int .i64 (t.pl : Nat) :: flatT s l
theorem flatT_snoc (s : ByteArray) (t : Tk) : ∀ l, flatT s (l ++ [t]) = flatT s l ++ [.string (t.tx s), .int .i64 (t.pl : Nat)]
  | [] => rfl
  | u :: l => by simp [flatT, flatT_snoc s t l]
theorem flatT_get (s : ByteArray) : ∀ (l : List Tk) (i : Nat) (t : Tk), l[i]? = some t → (flatT s l)[i * 2]? = some (.string (t.tx s)) ∧ (flatT s l)[i * 2 + 1]? = some (.int .i64 (t.pl : Nat))
  | [], i, t, h => by simp at h
  | u :: l, 0, t, h => by
    simp only [List.getElem?_cons_zero, Option.some.injEq] at h
    rw [h]; exact ⟨rfl, rfl⟩
  | u :: l, i + 1, t, h => by
    have h9 := flatT_get s l i t (by simpa using h)
    rw [show (i + 1) * 2 = i * 2 + 1 + 1 by omega]
    simp only [flatT, List.getElem?_cons_succ]
    exact h9
theorem own_tkl {w : World} {B C : Nat} {s : ByteArray} {LT : List Tk} {v : Value} (h : w.ownsRow B 60 2 v LT.length (flatT s LT)) (h1 : 0 < LT.length) (hC : w.heap.size ≤ C) : TkL C w s LT v := by
  rcases h.2 with ⟨_, h0⟩ | ⟨g, cap, cur, rfl, a1, a2, a3, a4, a5, a6⟩
  · omega
  · have hbk : Blk w g 60 cur := a2
    refine ⟨g, cap, cur, rfl, Nat.lt_of_lt_of_le hbk.lt hC, hbk, fun i t ht => ?_⟩
    obtain ⟨f1, f2⟩ := flatT_get s LT i t ht
    obtain ⟨hi, _⟩ := List.getElem?_eq_some_iff.1 ht
    rw [← a6, List.getElem?_take, if_pos (by omega), Array.getElem?_toList] at f1 f2
    exact ⟨f1, f2⟩
theorem own_drewN {w : World} {B : Nat} {e : TypeId} {k n : Nat} {v : Value} {xs : List Value} (h : w.ownsRow B e k v n xs) (m : Nat) : (w.drewN m).ownsRow B e k v n xs := h
def CutTQ (w : World) (s : ByteArray) (e : Ending) (w' : World) : Prop :=
  ∃ v, e = .returned v ∧ Below w.heap.size w w' ∧ w'.ownsRow w.heap.size 60 2 v (toks s 0).length (flatT s (toks s 0))
theorem toks_fin (s : ByteArray) : toks s s.size = [.fin s.size] := by
  have h : tkOf s s.size = .fin s.size := by unfold tkOf; rw [skip_end s false _ (Nat.le_refl _)]; unfold tkAt; rw [if_neg (by omega)]
  rw [toks_halt s _ (by rw [h]; rfl), h]
theorem toks_skip (s : ByteArray) (i j : Nat) (h : skip s false i = skip s false j) (hj : j ≤ s.size) (hi : i ≤ j) : toks s i = toks s j := by
  have e : tkOf s i = tkOf s j := by unfold tkOf; rw [h]
  cases hg : (tkOf s j).goes
  · rw [toks_halt s j hg, toks_halt s i (by rw [e]; exact hg), e]
  · rw [toks_go s j hj hg, toks_go s i (by omega) (by rw [e]; exact hg), e]
theorem tk_here (s : ByteArray) (i : Nat) (h : i < s.size) (h1 : byteAt s i ≠ 35) (hc : blankB (byteAt s i) = false) : tkOf s i = if byteAt s i = 59 then .semi i else if wordyB (byteAt s i) = true then .word i (wend s i) else .bad i := by
  unfold tkOf
  rw [skip_stop s i h h1 hc]
  unfold tkAt
  rw [if_pos h]
set_option maxHeartbeats 8000000 in
set_option maxRecDepth 100000 in
theorem rcut_ok (w : World) (s : ByteArray) (hs : s.size ≤ 65536) : Calls Tryd.prog 21 #[.string s] w (CutTQ w s) := by
  obtain ⟨Q, eQ⟩ : ∃ Q, Q = CutTQ w s := ⟨_, rfl⟩
  rw [← eQ]
  have EQ := Lib.hid eQ
  have HIX := Lib.hid (fun i (h : i < s.size) => str_index s i h)
  have HWD := Lib.hid wordy_ok
  clear eQ
  go_enter Tryd.func21, Tryd.ntmps21
  go_wp2_with fail
  go_loopw [3, 4, 5, 6] (fun lv iv _ _ wr => ∃ (i : Nat) (ts : List Tk), iv = .int .i64 (i : Nat) ∧ i ≤ s.size ∧ wr.ownsRow w.heap.size 60 2 lv ts.length (flatT s ts) ∧ Below w.heap.size w wr ∧ ts.length ≤ i ∧ ts ++ toks s i = toks s 0) (fun _ iv _ _ _ => s.size - (intOf iv).toNat)
  case atStart => exact ⟨0, [], rfl, Nat.zero_le _, ⟨rfl, .inl ⟨rfl, rfl⟩⟩, Below.refl _ _, Nat.le_refl _, rfl⟩
  case round =>
    obtain ⟨i, ts, rfl, hi, hown, hb, htl, hts⟩ := hrel
    obtain ⟨TL, eTL⟩ : ∃ x, x = ts.length := ⟨_, rfl⟩
    obtain ⟨TX, eTX⟩ : ∃ x, x = flatT s ts := ⟨_, rfl⟩
    have HAPP := Lib.hid (fun (t : Tk) (v4 : Value) (w4 : World) (ho : w4.ownsRow w.heap.size 60 2 v4 (TL + 1) (TX ++ [.string (t.tx s), .int .i64 (t.pl : Nat)])) (hg : wr.grownBy w4 u3.ownBlock) => show Below w.heap.size w w4 ∧ w4.ownsRow w.heap.size 60 2 v4 (ts ++ [t]).length (flatT s (ts ++ [t])) from by
      refine ⟨?_, by rw [flatT_snoc, List.length_append]; rw [eTL, eTX] at ho; exact ho⟩
      exact hb.trans ⟨hg.os, hg.tape, hg.output, hg.size, fun b hbb => hg.block b (Nat.lt_of_lt_of_le hbb hb.size) (fun e => by have := (hown.lt b e.symm).1; omega)⟩)
    have HFIN := Lib.hid (fun (t : Tk) (v4 : Value) (w4 : World) (hx : toks s i = [t]) (hb4 : Below w.heap.size w w4) (ho : w4.ownsRow w.heap.size 60 2 v4 (ts ++ [t]).length (flatT s (ts ++ [t]))) => show Q (.returned v4) w4 from by
      rw [EQ.out]
      rw [hx] at hts
      exact ⟨v4, rfl, hb4, by rw [← hts]; exact ho⟩)
    have HOWN := Lib.hid (show wr.ownsRow w.heap.size 60 2 u3 TL TX by rw [eTL, eTX]; exact hown)
    have HOW0 := Lib.hid hown
    have HBL := Lib.hid hb
    have HTS := Lib.hid hts
    have HSZ := Lib.hid hb.size
    have htl2 : TL ≤ i := by rw [eTL]; exact htl
    have HTL := Lib.hid htl
    clear hown hb hts eTL eTX htl
    by_cases hlt : i < s.size
    · obtain ⟨C, eC⟩ : ∃ x, x = byteAt s i := ⟨_, rfl⟩
      have hC : C < 256 := by rw [eC]; exact byteAt_lt s i
      have hix := HIX.out i hlt
      rw [← eC] at hix
      have d5 : decide (i < s.size) = true := decide_eq_true hlt
      have EC := Lib.hid eC
      have HREL := Lib.hid (fun (m j : Nat) (hj1 : i < j) (hj2 : j ≤ s.size) (hx : skip s false i = skip s false j) => show ∃ (i' : Nat) (ts' : List Tk), Value.int .i64 (j : Nat) = .int .i64 (i' : Nat) ∧ i' ≤ s.size ∧ (wr.drewN m).ownsRow w.heap.size 60 2 u3 ts'.length (flatT s ts') ∧ Below w.heap.size w (wr.drewN m) ∧ ts'.length ≤ i' ∧ ts' ++ toks s i' = toks s 0 from
        ⟨j, ts, rfl, hj2, own_drewN HOW0.out m, below_drewN HBL.out m, by have := HTL.out; omega, by rw [← toks_skip s i j hx hj2 (by omega)]; exact HTS.out⟩)
      by_cases hbl : blankB C = true
      · have hsk : skip s false i = skip s false (i + 1) := skip_blank s i hlt (by rw [← eC]; exact hbl)
        clear HAPP HFIN HOWN
        have hcc : C = 32 ∨ C = 9 ∨ C = 10 ∨ C = 13 := by
          simp only [blankB, Bool.or_eq_true, decide_eq_true_eq] at hbl
          omega
        have HR := Lib.hid (fun m => HREL.out m (i + 1) (by omega) (by omega) hsk)
        clear hsk hbl eC EC HREL HTS HOW0 HBL
        rcases hcc with rfl | rfl | rfl | rfl
        all_goals
          go_wp2_with fail
          refine (HWD.out _ hC _).mono ?_
          rintro e w6 ⟨rfl, rfl⟩
          go_wp2_with fail
          go_roundw
          case rel => exact HR.out 0
          case measure => simp [intOf]; omega
      · have hbl' : blankB C = false := by simpa using hbl
        have hnb : C ≠ 32 ∧ C ≠ 9 ∧ C ≠ 10 ∧ C ≠ 13 := by
          refine ⟨?_, ?_, ?_, ?_⟩ <;> (rintro rfl; exact absurd hbl' (by decide))
        obtain ⟨n1, n2, n3, n4⟩ := hnb
        have x32 : ((C : Int) == 32) = false := by rw [beq_eq_false_iff_ne]; omega
        have x9 : ((C : Int) == 9) = false := by rw [beq_eq_false_iff_ne]; omega
        have x10 : ((C : Int) == 10) = false := by rw [beq_eq_false_iff_ne]; omega
        have x13 : ((C : Int) == 13) = false := by rw [beq_eq_false_iff_ne]; omega
        clear hbl n1 n2 n3 n4
        by_cases h35 : C = 35
        · have HSK := Lib.hid (show skip s true i = skip s false i by
            have h9 : byteAt s i = 35 := by rw [← eC]; exact h35
            rw [skip_hash s i hlt h9, skip_cm s i hlt, h9]; rfl)
          have HI35 := Lib.hid (show byteAt s i = 35 by rw [← eC]; exact h35)
          subst h35
          clear eC EC HAPP HFIN HOWN HTS HOW0 HBL
          go_wp2_with fail
          refine (HWD.out _ hC _).mono ?_
          rintro e w6 ⟨rfl, rfl⟩
          go_wp2_with fail
          go_loopw [4] (fun jv wq => ∃ j m : Nat, jv = .int .i64 (j : Nat) ∧ i ≤ j ∧ j ≤ s.size ∧ wq = wr.drewN m ∧ skip s true j = skip s false i) (fun jv _ => s.size - (intOf jv).toNat)
          case atStart => exact ⟨i, 0, rfl, Nat.le_refl _, hi, rfl, HSK.out⟩
          case round =>
            obtain ⟨j, m, rfl, hj1, hj2, rfl, hsj⟩ := hrel
            by_cases hjl : j < s.size
            · have hixj := HIX.out j hjl
              obtain ⟨D, eD⟩ : ∃ x, x = byteAt s j := ⟨_, rfl⟩
              have hD : D < 256 := by rw [eD]; exact byteAt_lt s j
              rw [← eD] at hixj
              have d6 : decide (j < s.size) = true := decide_eq_true hjl
              by_cases h10 : D = 10
              · have hne : j ≠ i := by rintro rfl; rw [← eD, h10] at HI35; exact absurd HI35.out (by decide)
                have hsk : skip s false i = skip s false j := by
                  rw [← hsj, skip_cm s j hjl, ← eD, h10, skip_blank s j hjl (by rw [← eD, h10]; rfl)]; rfl
                have HR := Lib.hid (fun m => HREL.out m j (by omega) hj2 hsk)
                have y10 : ((D : Int) != 10) = false := by rw [h10]; rfl
                clear hsj hsk eD h10
                go_wp2_with fail
                go_roundw
                case rel => first | exact HR.out _ | ((repeat apply Exists.intro); refine ⟨?_, rfl⟩; exact HR.out _)
                case measure => simp [intOf]; omega
              · have HR := Lib.hid (show skip s true (j + 1) = skip s false i by rw [← hsj, skip_cm s j hjl, ← eD, decide_eq_true h10])
                have y10 : ((D : Int) != 10) = true := by rw [bne_iff_ne]; omega
                clear hsj eD h10
                go_wp2_with fail
                go_roundw
                case rel => exact ⟨j + 1, _, by go_num, by omega, by omega, rfl, HR.out⟩
                case measure => simp [intOf]; omega
            · obtain rfl : j = s.size := by omega
              have hsk : skip s false i = skip s false s.size := by rw [← hsj, skip_end s true _ (Nat.le_refl _), skip_end s false _ (Nat.le_refl _)]
              have HR := Lib.hid (fun m => HREL.out m s.size hlt (Nat.le_refl _) hsk)
              have d6 : decide (s.size < s.size) = false := decide_eq_false (by omega)
              clear hsj hsk hjl
              go_wp2_with fail
              go_roundw
              case rel => first | exact HR.out _ | ((repeat apply Exists.intro); refine ⟨?_, rfl⟩; exact HR.out _)
              case measure => simp [intOf]; omega
        · have x35 : ((C : Int) == 35) = false := by rw [beq_eq_false_iff_ne]; omega
          have HTK := Lib.hid (tk_here s i hlt (by rw [← eC]; exact h35) (by rw [← eC]; exact hbl'))
          have HNX := Lib.hid (fun (t : Tk) (j : Nat) (v4 : Value) (w4 : World) (h1 : tkOf s i = t) (h2 : t.goes = true) (h3 : t.en = j) (hj1 : i < j) (hj2 : j ≤ s.size) (hb4 : Below w.heap.size w w4) (ho : w4.ownsRow w.heap.size 60 2 v4 (ts ++ [t]).length (flatT s (ts ++ [t]))) =>
            show ∃ (i' : Nat) (ts' : List Tk), Value.int .i64 (j : Nat) = .int .i64 (i' : Nat) ∧ i' ≤ s.size ∧ w4.ownsRow w.heap.size 60 2 v4 ts'.length (flatT s ts') ∧ Below w.heap.size w w4 ∧ ts'.length ≤ i' ∧ ts' ++ toks s i' = toks s 0 from
            ⟨j, ts ++ [t], rfl, hj2, ho, hb4, by have := HTL.out; rw [List.length_append, List.length_singleton]; omega, by rw [← HTS.out, toks_go s i hi (by rw [h1]; exact h2), h1, h3, List.append_assoc]; rfl⟩)
          clear HREL HTS HOW0 HBL
          by_cases h59 : C = 59
          · have htk := HTK.out
            rw [← eC, if_pos h59] at htk
            have HTI := Lib.hid htk
            subst h59
            clear eC EC HFIN htk HTK
            go_wp2_with fail
            refine (HWD.out _ hC _).mono ?_
            rintro e w6 ⟨rfl, rfl⟩
            go_wp2_with (with_reducible refine app2 rfl (.tmp 67) (.tmp 70) 54 rfl w.heap.size 60 (.agg #[.string ByteArray.empty, .int .i64 0]) 24 Tryd.underlying54 info_tok rfl u3 TL TX rfl HOWN.out (.string ⟨#[59]⟩) (.int .i64 (i : Nat)) 1 rfl rfl rfl ?c1 ?c2 ?c3 ?_)
            case c1 => unfold maxLen; omega
            case c2 => omega
            case c3 => exact HSZ.out
            intro v4 w4 ho4 hg4
            obtain ⟨hb4, ho5⟩ := HAPP.out (.semi i) v4 w4 ho4 ⟨hg4.os, hg4.tape, hg4.output, hg4.size, hg4.block⟩
            have HR := Lib.hid (HNX.out _ (i + 1) v4 w4 HTI.out rfl rfl (by omega) (by omega) hb4 ho5)
            clear ho4 hg4 hb4 ho5 HAPP HNX
            go_wp2_with fail
            go_roundw
            case rel => exact HR.out
            case measure => simp [intOf]; omega
          · have x59 : ((C : Int) == 59) = false := by rw [beq_eq_false_iff_ne]; omega
            have htk := HTK.out
            rw [← eC, if_neg h59] at htk
            cases hwb : wordyB C
            · rw [hwb, if_neg (by decide)] at htk
              have hto : toks s i = [.bad i] := by rw [toks_halt s i (by rw [htk]; rfl), htk]
              have HTO := Lib.hid hto
              have HWB := Lib.hid hwb
              clear eC EC htk HTK hto h59 hwb HNX
              go_wp2_with fail
              refine (HWD.out _ hC _).mono ?_
              rintro e w6 ⟨rfl, rfl⟩
              rw [HWB.out]
              go_wp2_with (with_reducible refine app2 rfl (.tmp 15) (.tmp 18) 54 rfl w.heap.size 60 (.agg #[.string ByteArray.empty, .int .i64 0]) 24 Tryd.underlying54 info_tok rfl u3 TL TX rfl HOWN.out (.string ⟨#[63]⟩) (.int .i64 (i : Nat)) 1 rfl rfl rfl ?c1 ?c2 ?c3 ?_)
              case c1 => unfold maxLen; omega
              case c2 => omega
              case c3 => exact HSZ.out
              intro v4 w4 ho4 hg4
              obtain ⟨hb4, ho5⟩ := HAPP.out (.bad i) v4 w4 ho4 ⟨hg4.os, hg4.tape, hg4.output, hg4.size, hg4.block⟩
              have HF := Lib.hid (HFIN.out _ _ _ HTO.out hb4 ho5)
              clear ho4 hg4 hb4 ho5 HAPP HFIN
              go_wp2_with fail
              first | exact HF.out | (go_ret; exact HF.out)
            · rw [hwb, if_pos rfl] at htk
              have HTI := Lib.hid htk
              have HWB := Lib.hid hwb
              have HW0 := Lib.hid (show wordyB (byteAt s i) = true by rw [← eC]; exact hwb)
              clear eC EC htk HTK h59 hwb HFIN
              go_wp2_with fail
              refine (HWD.out _ hC _).mono ?_
              rintro e w6 ⟨rfl, rfl⟩
              rw [HWB.out]
              go_wp2_with fail
              go_loopw [5, 6] (fun bv kv wq => ∃ (b : Bool) (k : Nat), bv = .bool b ∧ kv = .int .i64 (k : Nat) ∧ i ≤ k ∧ k ≤ s.size ∧ wq = wr ∧ (b = true → k < s.size ∧ wordyB (byteAt s k) = true) ∧ (b = false → i < k) ∧ wend s k = wend s i ∧ (b = false → wend s k = k)) (fun bv kv _ => s.size - (intOf kv).toNat)
              case atStart => exact ⟨true, i, rfl, rfl, Nat.le_refl _, hi, rfl, fun _ => ⟨hlt, HW0.out⟩, fun h => absurd h (by decide), rfl, fun h => absurd h (by decide)⟩
              case round =>
                obtain ⟨b, k, rfl, rfl, hk1, hk2, hwq, hb1, hb2, hwk, hb3⟩ := hrel
                obtain rfl := hwq
                cases b
                · have hik := hb2 rfl
                  have hke := hb3 rfl
                  have HEN := Lib.hid (show wend s i = k by rw [← hwk]; exact hke)
                  clear hb1 hb2 hwk hb3 hke
                  go_wp2_with (with_reducible refine app2 rfl (.tmp 90) (.tmp 97) 54 rfl w.heap.size 60 (.agg #[.string ByteArray.empty, .int .i64 0]) 24 Tryd.underlying54 info_tok rfl u3 TL TX rfl HOWN.out (.string (s.extract i k)) (.int .i64 (i : Nat)) 1 rfl rfl rfl ?c1 ?c2 ?c3 ?_)
                  case c1 => unfold maxLen; omega
                  case c2 => omega
                  case c3 => exact HSZ.out
                  intro v4 w4 ho4 hg4
                  obtain ⟨hb4, ho5⟩ := HAPP.out (.word i k) v4 w4 ho4 ⟨hg4.os, hg4.tape, hg4.output, hg4.size, hg4.block⟩
                  have HR := Lib.hid (HNX.out (.word i k) k v4 w4 (by rw [HTI.out, HEN.out]) rfl rfl hik hk2 hb4 ho5)
                  clear ho4 hg4 hb4 ho5 HAPP HNX
                  go_wp2_with fail
                  go_roundw
                  case rel => first | exact HR.out | ((repeat apply Exists.intro); refine ⟨?_, rfl⟩; exact HR.out)
                  case measure => simp [intOf]; omega
                · obtain ⟨hkl, hkw⟩ := hb1 rfl
                  have hst : wend s k = wend s (k + 1) := wend_on s k hkl hkw
                  by_cases hk3 : k + 1 < s.size
                  · obtain ⟨D, eD⟩ : ∃ x, x = byteAt s (k + 1) := ⟨_, rfl⟩
                    have hD : D < 256 := by rw [eD]; exact byteAt_lt s _
                    have ED := Lib.hid (show (s[k + 1]'hk3).toNat = D by rw [eD]; exact (byteAt_in s (k + 1) hk3).symm)
                    have HR := Lib.hid (show ∃ (b : Bool) (k' : Nat), Value.bool (wordyB D) = .bool b ∧ Value.int .i64 ((k : Int) + 1) = .int .i64 (k' : Nat) ∧ i ≤ k' ∧ k' ≤ s.size ∧ True ∧ (b = true → k' < s.size ∧ wordyB (byteAt s k') = true) ∧ (b = false → i < k') ∧ wend s k' = wend s i ∧ (b = false → wend s k' = k') from
                      ⟨wordyB D, k + 1, rfl, by go_num, by omega, by omega, trivial, fun h => ⟨hk3, by rw [← eD]; exact h⟩, fun _ => by omega, by rw [← hst]; exact hwk, fun h => wend_stop s _ hk3 (by rw [← eD]; exact h)⟩)
                    clear hb1 hb2 hwk hb3 hkw hst eD
                    go_wp2_with fail
                    rw [ED.out]
                    refine (HWD.out D hD _).mono ?_
                    rintro e w6 ⟨rfl, rfl⟩
                    go_wp2_with fail
                    go_roundw
                    case rel => exact HR.out
                    case measure => simp [intOf]; omega
                  · have d6 : decide ((k : Int) + 1 < s.size) = false := decide_eq_false (by omega)
                    have HR := Lib.hid (show ∃ (b : Bool) (k' : Nat), Value.bool false = .bool b ∧ Value.int .i64 ((k : Int) + 1) = .int .i64 (k' : Nat) ∧ i ≤ k' ∧ k' ≤ s.size ∧ True ∧ (b = true → k' < s.size ∧ wordyB (byteAt s k') = true) ∧ (b = false → i < k') ∧ wend s k' = wend s i ∧ (b = false → wend s k' = k') from
                      ⟨false, k + 1, rfl, by go_num, by omega, by omega, trivial, fun h => absurd h (by decide), fun _ => by omega, by rw [← hst]; exact hwk, fun _ => by rw [wend_end s _ (by omega)]; omega⟩)
                    clear hb1 hb2 hwk hb3 hkw hst
                    go_wp2_with fail
                    go_roundw
                    case rel => exact HR.out
                    case measure => simp [intOf]; omega
    · obtain rfl : i = s.size := by omega
      go_wp2_with (with_reducible refine app2 rfl (.tmp 100) (.tmp 104) 54 rfl w.heap.size 60 (.agg #[.string ByteArray.empty, .int .i64 0]) 24 Tryd.underlying54 info_tok rfl u3 TL TX rfl HOWN.out (.string ⟨#[]⟩) (.int .i64 (s.size : Nat)) 1 rfl rfl rfl ?c1 ?c2 ?c3 ?_)
      case c1 => unfold maxLen; omega
      case c2 => omega
      case c3 => exact HSZ.out
      intro v4 w4 ho4 hg4
      obtain ⟨hb4, ho5⟩ := HAPP.out (.fin s.size) v4 w4 ho4 hg4
      have HF := Lib.hid (HFIN.out _ _ _ (toks_fin s) hb4 ho5)
      clear ho4 hg4 hb4 ho5 HAPP HFIN
      go_wp2_with fail
      first | exact HF.out | (go_ret; exact HF.out)
end Go.Proofs.YtbfebfeliddpnaaDoor
