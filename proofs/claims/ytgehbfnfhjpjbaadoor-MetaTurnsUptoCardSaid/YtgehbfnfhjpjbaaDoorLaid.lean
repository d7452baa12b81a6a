/- What the listed tables give; a superblock that came in. -/
import Derived.Test.YtgehbfnfhjpjbaaDoorRowI
import Derived.ProofKit
import Derived.LaidMore
import Derived.OpenShut
import Derived.MakeChecks
namespace Go.Proofs.YtgehbfnfhjpjbaaDoor
open Go.ChangeShapes Go.WideShapes Go.ChangeAt Go.RowKit
set_option linter.unusedVariables false
set_option linter.unusedSimpArgs false
/-- A listed table of words: its block holds the listed numbers. -/
theorem laid_arr {P : Program} {w : World} {nm : String} {l : List Int} {t e : TypeId} {g fuel : Nat} {cs : Array Value} {p : List MemPlace} (hg : P.globalNamed nm = some g) (hv : w.var? P nm = some cs)
    (ht : P.underlying t = some (.array l.length e)) (he : P.underlying e = some (.int .u32)) (hc : P.cellsOf e = 1) (hct : P.cellsOf t = l.length)
    (hd : DataW.trod (fun _ => ()) P w 0 (fun _ => true) false fuel t cs.toList = some (.agg (l.map fun z => .lit (.int .u32 z)), p)) (hz : ∃ c t', w.heap[g]? = some (.cells c t' (0, 0))) :
    BlkG w g (l.map (Value.int .u32)).toArray := by
  obtain ⟨c, t', hz⟩ := hz
  have hcc : c = cs := by
    simp only [World.var?, hg, Option.bind_some, hz] at hv
    exact Option.some.inj hv
  subst hcc
  obtain ⟨xs, m, rfl, hx, hlen, hn, hel⟩ := DataW.trod_array ht hd
  simp only [Prod.mk.injEq, DataW.agg.injEq] at hx
  have hcl : c.toList = l.map (Value.int .u32) := by
    apply List.ext_getElem?
    intro i
    by_cases hi : i < l.length
    · have h1 := hel i hi
      rw [hc, Nat.mul_one, List.getElem?_eq_getElem (by omega)] at h1
      obtain ⟨k, e1, e2, _⟩ := DataW.trod_int he h1
      have h2 := congrArg (fun q => q[i]?) hx.1
      simp only [List.getElem?_map, List.getElem?_eq_getElem (show i < xs.length by omega), List.getElem?_eq_getElem hi, Option.map_some, e2, Option.some.injEq, DataW.lit.injEq, Lit.int.injEq, true_and] at h2
      have h3 := congrArg (fun q => q[0]?) e1
      simp only [List.getElem?_take, List.getElem?_drop, Nat.add_zero, if_pos (show 0 < 1 by omega), List.getElem?_cons_zero] at h3
      rw [h3, List.getElem?_map, List.getElem?_eq_getElem hi, h2]
      rfl
    · rw [List.getElem?_eq_none (by rw [hlen, hct]; omega), List.getElem?_eq_none (by simp; omega)]
  refine ⟨t', ?_⟩
  rw [← hcl]
  exact hz
theorem RowG.of {w : World} {g : Nat} {l : List Int} (h : BlkG w g (l.map (Value.int .u32)).toArray) : RowG .u32 w g l.length (fun i => l.getD i 0) := let ⟨t, h⟩ := h; ⟨t, RowA.list h⟩
def roundsL : List Int := [1116352408, 1899447441, 3049323471, 3921009573, 961987163, 1508970993, 2453635748, 2870763221, 3624381080, 310598401, 607225278, 1426881987, 1925078388, 2162078206, 2614888103, 3248222580, 3835390401, 4022224774, 264347078, 604807628, 770255983, 1249150122, 1555081692, 1996064986, 2554220882, 2821834349, 2952996808, 3210313671, 3336571891, 3584528711, 113926993, 338241895, 666307205, 773529912, 1294757372, 1396182291, 1695183700, 1986661051, 2177026350, 2456956037, 2730485921, 2820302411, 3259730800, 3345764771, 3516065817, 3600352804, 4094571909, 275423344, 430227734, 506948616, 659060556, 883997877, 958139571, 1322822218, 1537002063, 1747873779, 1955562222, 2024104815, 2227730452, 2361852424, 2428436474, 2756734187, 3204031479, 3329325298]
def startS : St := ⟨1779033703, 3144134277, 1013904242, 2773480762, 1359893119, 2600822924, 528734635, 1541459225⟩
def roundsK (i : Nat) : Int := roundsL.getD i 0
theorem gRounds : Tryd.prog.globalNamed "replica/digest.rounds" = some 1 := by kernel_rfl
theorem gStart : Tryd.prog.globalNamed "replica/digest.start" = some 0 := by kernel_rfl
theorem tRounds : (Tryd.prog.globals[1]?).map (·.type) = some 105 := by kernel_rfl
theorem tStart : (Tryd.prog.globals[0]?).map (·.type) = some 96 := by kernel_rfl
theorem place_of {w : World} {ps : List MemPlace} {g n : Nat} (h : ∀ b off, MemPlace.cell b off ∈ ps → (∃ c t, w.heap[b]? = some (.cells c t (0, 0))) ∧ ∀ u v, w.cell? ⟨b, off, none⟩ = some (.iface u v) → Value.okWide Tryd.prog w .any 0 u v)
    (hn : 0 < n) (hs : ∀ x ∈ MemPlace.row ⟨g, 0, none⟩ n, x ∈ ps) : ∃ c t, w.heap[g]? = some (.cells c t (0, 0)) := by
  refine (h g 0 (hs _ ?_)).1
  simp [MemPlace.row]
  exact hn
/-- The two tables of the program's digest, as listed. -/
theorem tab_of {W : World} (h : laidMetH Tryd.prog [("replica/digest.rounds", Rows.laid_replica_digest_rounds), ("replica/digest.start", Rows.laid_replica_digest_start)] W) : Tab roundsK startS W := by
  rw [MakeChecks.laidMetH_plain _ _ _ (by kernel_rfl)] at h
  obtain ⟨ps, ⟨g0, t0, cs0, f0, p0, q0, hg0, ht0, hv0, hd0, ⟨g1, t1, cs1, f1, p1, q1, hg1, ht1, hv1, hd1, hq1, hp1⟩, hp0⟩, _, hpl⟩ := h
  obtain rfl := Option.some.inj (gRounds.symm.trans hg0)
  obtain rfl := Option.some.inj (gStart.symm.trans hg1)
  obtain rfl := Option.some.inj (tRounds.symm.trans ht0)
  obtain rfl := Option.some.inj (tStart.symm.trans ht1)
  have hd0' : DataW.trod (fun _ => ()) Tryd.prog W 0 (fun _ => true) false f0 105 cs0.toList = some (.agg (roundsL.map fun z => .lit (.int .u32 z)), p0) := hd0
  have hd1' : DataW.trod (fun _ => ()) Tryd.prog W 0 (fun _ => true) false f1 96 cs1.toList = some (.agg (startS.list.map fun z => .lit (.int .u32 z)), p1) := hd1
  have c0 : cs0.size = 64 := by
    obtain ⟨xs, m, _, _, hlen, _, _⟩ := DataW.trod_array Tryd.underlying105 hd0'
    rw [Array.length_toList] at hlen
    rw [hlen]; kernel_rfl
  have c1 : cs1.size = 8 := by
    obtain ⟨xs, m, _, _, hlen, _, _⟩ := DataW.trod_array Tryd.underlying96 hd1'
    rw [Array.length_toList] at hlen
    rw [hlen]; kernel_rfl
  have z0 := place_of (g := 1) (n := cs0.size) hpl (by omega) (fun x hx => by rw [hp0]; simp [hx])
  have z1 := place_of (g := 0) (n := cs1.size) hpl (by omega) (fun x hx => by rw [hp0, hp1]; simp [hx])
  exact ⟨RowG.of (laid_arr (l := roundsL) hg0 hv0 Tryd.underlying105 Tryd.underlying25 (by kernel_rfl) (by kernel_rfl) hd0' z0), laid_arr (l := startS.list) hg1 hv1 Tryd.underlying96 Tryd.underlying25 (by kernel_rfl) (by kernel_rfl) hd1' z1⟩
set_option maxRecDepth 100000 in
theorem array10 {cs : Array Value} (h : cs.size = 10) : ∃ c0 c1 c2 c3 c4 c5 c6 c7 c8 c9, cs = #[c0, c1, c2, c3, c4, c5, c6, c7, c8, c9] := by
  obtain ⟨l⟩ := cs
  match l, h with
  | [c0, c1, c2, c3, c4, c5, c6, c7, c8, c9], _ => exact ⟨c0, c1, c2, c3, c4, c5, c6, c7, c8, c9, rfl⟩
theorem wf_u64 {n : Int} (h : (Lit.int .u64 n).wf = true) : 0 ≤ n ∧ n < 18446744073709551616 := by
  simp [Lit.wf, IntKind.min, IntKind.max, IntKind.signed, IntKind.bits] at h; omega
theorem wf_u32 {n : Int} (h : (Lit.int .u32 n).wf = true) : 0 ≤ n ∧ n < 4294967296 := by
  simp [Lit.wf, IntKind.min, IntKind.max, IntKind.signed, IntKind.bits] at h; omega
set_option maxRecDepth 100000 in
/-- A superblock that came in. -/
theorem open_super {H : Type} {enc : TypeId × Value → H} {W : World} {base b0 : Nat} {spare : Nat → Bool} {held : Bool} {v : Value} {d : DataW H} {p : List MemPlace} {r : Reach}
    (hv : Value.okWide Tryd.prog W r b0 27 v) (h : DataW.Trod enc Tryd.prog W base spare held 27 v d p) : ∃ s : Sup, v = .agg s.arr ∧ Kinds s := by
  obtain ⟨cs, rfl, hsz⟩ := okWide_struct Tryd.underlying27 hv
  obtain ⟨c0, c1, c2, c3, c4, c5, c6, c7, c8, c9, rfl⟩ := array10 (hsz.trans (by kernel_rfl))
  obtain ⟨fuel, hf⟩ := h
  obtain ⟨xs, n, _, _, _, hn, hel⟩ := DataW.trod_struct Tryd.underlying27 hf
  have hl : xs.length = 7 := hn
  have k64 : Tryd.prog.cellsOf 22 = 1 := by kernel_rfl
  have k3 : Tryd.prog.cellsOf 3 = 1 := by kernel_rfl
  have k32 : Tryd.prog.cellsOf 25 = 1 := by kernel_rfl
  have kg : Tryd.prog.cellsOf 24 = 4 := by kernel_rfl
  have g0 := hel 0 _ rfl
  have g1 := hel 1 _ rfl
  have g2 := hel 2 _ rfl
  have g3 := hel 3 _ rfl
  have g4 := hel 4 _ rfl
  have g5 := hel 5 _ rfl
  have g6 := hel 6 _ rfl
  simp only [List.getElem_toArray, List.getElem_cons_zero, List.getElem_cons_succ, k64, k3, k32, kg, Value.cells, List.getElem?_eq_getElem (show 0 < xs.length by omega), List.getElem?_eq_getElem (show 1 < xs.length by omega), List.getElem?_eq_getElem (show 2 < xs.length by omega), List.getElem?_eq_getElem (show 3 < xs.length by omega), List.getElem?_eq_getElem (show 4 < xs.length by omega), List.getElem?_eq_getElem (show 5 < xs.length by omega), List.getElem?_eq_getElem (show 6 < xs.length by omega), List.drop_zero, List.drop_succ_cons, List.take_succ_cons, List.take_zero] at g0 g1 g2 g3 g4 g5 g6
  obtain ⟨sq, e0, _, w0⟩ := DataW.trod_int Tryd.underlying22 g0
  obtain ⟨bl, e1, _, _⟩ := DataW.trod_int Tryd.underlying3 g1
  obtain ⟨sz, e2, _, _⟩ := DataW.trod_int Tryd.underlying3 g2
  obtain ⟨sl, e3, _, _⟩ := DataW.trod_int Tryd.underlying3 g3
  obtain ⟨fl, e5, _, w5⟩ := DataW.trod_int Tryd.underlying25 g5
  obtain ⟨mr, e6, _, _⟩ := DataW.trod_int Tryd.underlying3 g6
  obtain ⟨ys, m, _, _, _, hyn, hyl⟩ := DataW.trod_struct Tryd.underlying24 g4
  have hl2 : ys.length = 4 := hyn
  have q0 := hyl 0 _ rfl
  have q1 := hyl 1 _ rfl
  have q2 := hyl 2 _ rfl
  have q3 := hyl 3 _ rfl
  simp only [List.getElem_toArray, List.getElem_cons_zero, List.getElem_cons_succ, k64, List.getElem?_eq_getElem (show 0 < ys.length by omega), List.getElem?_eq_getElem (show 1 < ys.length by omega), List.getElem?_eq_getElem (show 2 < ys.length by omega), List.getElem?_eq_getElem (show 3 < ys.length by omega), List.drop_zero, List.drop_succ_cons, List.take_succ_cons, List.take_zero] at q0 q1 q2 q3
  obtain ⟨cu, f0, _, x0⟩ := DataW.trod_int Tryd.underlying22 q0
  obtain ⟨bm, f1, _, x1⟩ := DataW.trod_int Tryd.underlying22 q1
  obtain ⟨o1, f2, _, x2⟩ := DataW.trod_int Tryd.underlying22 q2
  obtain ⟨o2, f3, _, x3⟩ := DataW.trod_int Tryd.underlying22 q3
  simp only [List.cons.injEq, and_true] at e0 e1 e2 e3 e5 e6 f0 f1 f2 f3
  subst e0 e1 e2 e3 e5 e6 f0 f1 f2 f3
  exact ⟨⟨sq, bl, sz, sl, cu, bm, o1, o2, fl, mr⟩, rfl, wf_u64 w0, wf_u64 x0, wf_u64 x1, wf_u64 x2, wf_u64 x3, wf_u32 w5⟩
theorem bytes_of {l : List Int} (h : ∀ x ∈ l, (Lit.int .u8 x).wf = true) : Bytes l := fun x hx => by
  have := h x hx
  simp [Lit.wf, IntKind.min, IntKind.max, IntKind.signed, IntKind.bits] at this; omega
end Go.Proofs.YtgehbfnfhjpjbaaDoor
