/- The digest of a list: Sum256. -/
import Derived.Test.YtgehbfnfhjpjbaaDoorShaH
namespace Go.Proofs.YtgehbfnfhjpjbaaDoor
open Go.RowKit
set_option linter.unusedVariables false
set_option linter.unusedSimpArgs false
/-- The tables of the program's digest. -/
def Tab (K : Nat → Int) (S : St) (w : World) : Prop := RowG .u32 w 1 64 K ∧ BlkG w 0 S.arr
theorem Tab.below {K : Nat → Int} {S : St} {w w1 : World} (h : Tab K S w) {B : Nat} (hb : Below B w w1) (hB : 1 < B) : Tab K S w1 := ⟨h.1.below hb hB, h.2.below hb (by omega)⟩
theorem Tab.belowS {K : Nat → Int} {S : St} {w w1 : World} (h : Tab K S w) (hb : Below w.heap.size w w1) : Tab K S w1 := h.below hb h.1.lt
theorem Tab.drewN {K : Nat → Int} {S : St} {w : World} (h : Tab K S w) (n : Nat) : Tab K S (w.drewN n) := h
theorem Tab.alloc {K : Nat → Int} {S : St} {w : World} (h : Tab K S w) (o : Obj) : Tab K S (w.alloc o) := ⟨h.1.alloc o, h.2.alloc o⟩
theorem Tab.lt {K : Nat → Int} {S : St} {w : World} (h : Tab K S w) : 1 < w.heap.size := h.1.lt
theorem Rd.src {w : World} {v : Value} {xs : List Int} (h : Rd .u8 w v xs) (g : Nat) (hg : w.heap.size ≤ g) :
    ∃ b off c, xs.length ≤ c ∧ b ≠ g ∧ (∀ i, i < xs.length → b < w.heap.size ∧ w.cell? ⟨b, off + i, none⟩ = some (.int .u8 (xs.getD i 0))) ∧ ((0 < xs.length ∧ v = .slice (some ⟨b, off, none⟩) xs.length c) ∨ (0 = xs.length ∧ ∃ A c', v = .slice A 0 c')) := by
  rcases h with ⟨rfl, A, c, rfl⟩ | ⟨b, off, c, rfl, h1, h2, h3, h4⟩
  · exact ⟨g + 1, 0, 0, by simp, by omega, fun i hi => by simp at hi, .inr ⟨rfl, A, c, rfl⟩⟩
  · exact ⟨b, off, c, h2, by omega, fun i hi => ⟨h3, h4 i hi⟩, .inl ⟨h1, rfl⟩⟩
set_option maxHeartbeats 1000000 in
set_option maxRecDepth 100000 in
theorem sum256_ok (K : Nat → Int) (S : St) (v : Value) (xs : List Int) (w : World) (hT : Tab K S w) (hr : Rd .u8 w v xs) :
    Calls Tryd.prog 16 #[v] w fun e w' => e = .returned (aggOf .u8 (shaF K S xs)) ∧ Below w.heap.size w w' := by
  obtain ⟨z32, hz32, e32⟩ : ∃ zc : Array Value, (∀ w, (zeroValue 67).run Tryd.prog w = .ok (.agg zc) w) ∧ zc = (List.replicate 32 (Value.int .u8 0)).toArray :=
    ⟨(List.replicate 32 (Value.int .u8 0)).toArray, fun w => by kernel_rfl, rfl⟩
  have hzs32 : z32.size = 32 := by rw [e32]; rfl
  have Hzs32 := Lib.hid hzs32
  obtain ⟨b, off, c, hc, hbg, hsrc, hv⟩ := hr.src (w.heap.size + 1) (by omega)
  have hlt3 := hT.lt
  have hnew := new_ok S (w.alloc (.cells z32 67)) (hT.2.alloc _)
  have hsz : (w.alloc (.cells z32 67)).heap.size = w.heap.size + 1 := by simp
  rw [hsz] at hnew
  obtain ⟨ar, ear⟩ : ∃ ar, ar = (hashL S zeroL 0 0).toArray := ⟨_, rfl⟩
  obtain ⟨w1, ew1⟩ : ∃ w1, w1 = ((w.alloc (.cells z32 67)).alloc (.cells ar 100)) := ⟨_, rfl⟩
  have hK1 : RowG .u32 w1 1 64 K := by rw [ew1]; exact (hT.1.alloc _).alloc _
  have hb1 : Blk w1 (w.heap.size + 1) 100 (hashL S zeroL 0 0).toArray := by rw [ew1, ear]; exact Blk.newAt _ _ _ _ (by simp)
  have hbl1 : Below w.heap.size w w1 := by rw [ew1]; exact ((Below.refl _ _).alloc (Nat.le_refl _) _).alloc (by simp) _
  have hw := write_ok K (w.heap.size + 1) S zeroL 0 0 xs b off c v w1 hK1 (by omega) hb1 (by simp [zeroL]) (by omega) hc hbg (fun i hi => (hbl1.cell (p := ⟨b, off + i, none⟩) (hsrc i hi).1).trans (hsrc i hi).2) hv
  have hinv := feed_inv K xs (S, zeroL, 0) (by simp [zeroL]) (by simp)
  obtain ⟨⟨st1, part1, held1⟩, es1⟩ : ∃ s1, s1 = feed K (S, zeroL, 0) xs := ⟨_, rfl⟩
  rw [← es1] at hw hinv
  obtain ⟨cnt1, ecnt1⟩ : ∃ c, c = (0 + (xs.length : Int)) % 18446744073709551616 := ⟨_, rfl⟩
  rw [← ecnt1] at hw
  rw [← ear] at hnew
  obtain ⟨hp1, hh1⟩ := hinv
  have hfin : sumF K (st1, part1, held1) cnt1 = shaF K S xs := by unfold shaF; rw [← es1, ← ecnt1]
  have hres : Blk w1 w.heap.size 67 z32 := by rw [ew1]; exact (Blk.newAt _ _ _ _ rfl).alloc _
  have HN := Lib.hid hnew
  have HW := Lib.hid hw
  have Hfin := Lib.hid hfin
  have Ew1 := Lib.hid ew1
  have HK1 := Lib.hid hK1
  have Hbl1 := Lib.hid hbl1
  have Hres := Lib.hid hres
  have Hp1 := Lib.hid hp1
  obtain ⟨A, cc, rfl⟩ := hr.slice
  clear hnew hw hfin ew1 hK1 hbl1 hres hp1 hr hv hsrc hT hb1 es1 ecnt1 ear e32 hzs32 hsz
  go_enter Tryd.func16, Tryd.ntmps16
  go_wp2_with fail
  refine HN.out.mono ?_
  rintro e w1' ⟨rfl, hw1⟩
  rw [← Ew1.out] at hw1
  subst hw1
  clear HN Ew1
  go_wp2_with fail
  refine HW.out.mono ?_
  rintro e w2 ⟨rfl, hb2, hk2⟩
  have hsum := sum_ok K (w.heap.size + 1) st1 part1 held1 cnt1 w2 (HK1.out.below hb2 (by omega)) hk2 Hp1.out hh1
  have HS := Lib.hid hsum
  have Hb2 := Lib.hid hb2
  have Hk2 := Lib.hid hk2
  clear hsum hb2 hk2 HW
  go_wp2_with fail
  refine HS.out.mono ?_
  rintro e w3 ⟨rfl, hb3⟩
  unfold aggOf
  obtain ⟨sa, esa⟩ : ∃ sa, sa = ((sumF K (st1, part1, held1) cnt1).map (Value.int .u8)).toArray := ⟨_, rfl⟩
  rw [← esa]
  have k1 : (Tryd.prog.info? 67).map (·.size) = some sa.size := by rw [esa]; simp only [List.size_toArray, List.length_map, sumF_length]; exact sum_size
  have k2 : z32.size = sa.size := by rw [Hzs32.out, esa]; simp [sumF_length]
  have k3 : sa.all (·.oneCell') = true := by rw [esa]; exact sh_one _ _
  have hz3 : Blk w3 w.heap.size 67 z32 := (Hres.out.below Hb2.out (by omega)).below hb3 (by have := Hk2.out.lt; omega)
  have hbl3 : Below w.heap.size w w3 := (Hbl1.out.trans (Hb2.out.mono (by omega))).trans (hb3.mono (by have := Hk2.out.lt; omega))
  have Esa := Lib.hid esa
  have K1 := Lib.hid k1
  have K2 := Lib.hid k2
  have K3 := Lib.hid k3
  have Hz3 := Lib.hid hz3
  have Hbl3 := Lib.hid hbl3
  clear esa k1 k2 k3 hz3 hbl3 hb3 HS
  go_wp2_with (with_reducible refine wpList_store_row rfl 67 (.tmp 2) (.tmp 9) rfl _ sa rfl rfl 67 z32 Hz3.out.out K1.out K2.out K3.out ?_)
  refine bodyPost_ret (v := .agg sa) (results_cell_row (t := 67) (fr := (0, 0)) rfl _ _ w.heap.size _ _ rfl (Hz3.out.setRow _).out Tryd.underlying67 rfl K1.out) rfl ⟨by rw [Esa.out, Hfin.out]; rfl, ?_⟩
  exact below_setRow Hbl3.out (Nat.le_refl _) _
end Go.Proofs.YtgehbfnfhjpjbaaDoor
