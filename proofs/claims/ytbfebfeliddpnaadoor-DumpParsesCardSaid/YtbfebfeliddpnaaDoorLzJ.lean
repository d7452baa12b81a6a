/- What the listed table of the flags' names gives. -/
import Derived.Test.YtbfebfeliddpnaaDoorLzI
import Derived.Test.YtbfebfeliddpnaaDoorRows
import Derived.ProofKit
import Derived.LaidMore
import Derived.OpenShut
import Derived.MakeChecks
import Derived.ChangeArms
namespace Go.Proofs.YtbfebfeliddpnaaDoor
open Go.ChangeShapes Go.WideShapes Go.ChangeAt Go.RowKit
set_option linter.unusedVariables false
set_option linter.unusedSimpArgs false
/-- A listed table of strings: its block holds the listed strings. -/
theorem laid_strs {P : Program} {w : World} {nm : String} {l : List (List UInt8)} {t e : TypeId} {g fuel : Nat} {cs : Array Value} {p : List MemPlace} (hg : P.globalNamed nm = some g) (hv : w.var? P nm = some cs)
    (ht : P.underlying t = some (.array l.length e)) (he : P.underlying e = some .string) (hc : P.cellsOf e = 1) (hct : P.cellsOf t = l.length)
    (hd : DataW.trod (fun _ => ()) P w 0 (fun _ => true) false fuel t cs.toList = some (.agg (l.map fun z => .lit (.string z)), p)) (hz : ∃ c t', w.heap[g]? = some (.cells c t' (0, 0))) :
    BlkG w g (l.map fun b => Value.string ⟨b.toArray⟩).toArray := by
  obtain ⟨c, t', hz⟩ := hz
  have hcc : c = cs := by
    simp only [World.var?, hg, Option.bind_some, hz] at hv
    exact Option.some.inj hv
  subst hcc
  obtain ⟨xs, m, rfl, hx, hlen, hn, hel⟩ := DataW.trod_array ht hd
  simp only [Prod.mk.injEq, DataW.agg.injEq] at hx
  have hcl : c.toList = l.map fun b => Value.string ⟨b.toArray⟩ := by
    apply List.ext_getElem?
    intro i
    by_cases hi : i < l.length
    · have h1 := hel i hi
      rw [hc, Nat.mul_one, List.getElem?_eq_getElem (by omega)] at h1
      obtain ⟨k, e1, e2, _⟩ := DataW.trod_string he h1
      have h2 := congrArg (fun q => q[i]?) hx.1
      simp only [List.getElem?_map, List.getElem?_eq_getElem (show i < xs.length by omega), List.getElem?_eq_getElem hi, Option.map_some, e2, Option.some.injEq, DataW.lit.injEq, Lit.string.injEq] at h2
      have h3 := congrArg (fun q => q[0]?) e1
      simp only [List.getElem?_take, List.getElem?_drop, Nat.add_zero, if_pos (show 0 < 1 by omega), List.getElem?_cons_zero] at h3
      rw [h3, List.getElem?_map, List.getElem?_eq_getElem hi, Option.map_some, h2]
    · rw [List.getElem?_eq_none (by rw [hlen, hct]; omega), List.getElem?_eq_none (by simp; omega)]
  refine ⟨t', ?_⟩
  rw [← hcl]
  exact hz
def namesL : List (List UInt8) := [[99, 111, 110, 115, 105, 115, 116, 101, 110, 116], [111, 117, 116, 100, 97, 116, 101, 100], [112, 114, 105, 109, 97, 114, 121], [99, 114, 97, 115, 104, 101, 100]]
theorem gNames : Tryd.prog.globalNamed "replica/dump.flagNames" = some 0 := by kernel_rfl
theorem tNames : (Tryd.prog.globals[0]?).map (·.type) = some 82 := by kernel_rfl
theorem place_of {w : World} {ps : List MemPlace} {g n : Nat} (h : ∀ b off, MemPlace.cell b off ∈ ps → (∃ c t, w.heap[b]? = some (.cells c t (0, 0))) ∧ ∀ u v, w.cell? ⟨b, off, none⟩ = some (.iface u v) → Value.okWide Tryd.prog w .any 0 u v)
    (hn : 0 < n) (hs : ∀ x ∈ MemPlace.row ⟨g, 0, none⟩ n, x ∈ ps) : ∃ c t, w.heap[g]? = some (.cells c t (0, 0)) := by
  refine (h g 0 (hs _ ?_)).1
  simp [MemPlace.row]
  exact hn
/-- The table of the flags' names, as listed. -/
theorem flagTab_of {W : World} (h : laidMetH Tryd.prog [("replica/dump.flagNames", Rows.laid_replica_dump_flagNames)] W) : FlagTab W := by
  rw [MakeChecks.laidMetH_plain _ _ _ (by kernel_rfl)] at h
  obtain ⟨ps, ⟨g0, t0, cs0, f0, p0, q0, hg0, ht0, hv0, hd0, hq0, hp0⟩, _, hpl⟩ := h
  obtain rfl := Option.some.inj (gNames.symm.trans hg0)
  obtain rfl := Option.some.inj (tNames.symm.trans ht0)
  have hd0' : DataW.trod (fun _ => ()) Tryd.prog W 0 (fun _ => true) false f0 82 cs0.toList = some (.agg (namesL.map fun z => .lit (.string z)), p0) := hd0
  have c0 : cs0.size = 4 := by
    obtain ⟨xs, m, _, _, hlen, _, _⟩ := DataW.trod_array Tryd.underlying82 hd0'
    rw [Array.length_toList] at hlen
    rw [hlen]; kernel_rfl
  have z0 := place_of (g := 0) (n := cs0.size) hpl (by omega) (fun x hx => by rw [hp0]; simp [hx])
  exact laid_strs (l := namesL) hg0 hv0 Tryd.underlying82 Tryd.underlying9 (by kernel_rfl) (by kernel_rfl) hd0' z0
end Go.Proofs.YtbfebfeliddpnaaDoor
