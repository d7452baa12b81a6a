/- Appending one element of one cell near the greatest size: where the new slice lies. -/
import Derived.Test.YtgehbfnfhjpjbaaDoorDisC
import Derived.Deep.AppendLies
import Derived.Deep.DeepAppendWide
namespace Go.Proofs.YtgehbfnfhjpjbaaDoor
open Go.RowKit
set_option linter.unusedVariables false
set_option linter.unusedSimpArgs false
theorem wide_fits {n : Nat} (h : (n + 1) * 24 ≤ 200000000000000) : ((n + 1) + (n + 1) / 4 + 192) * 24 ≤ 281474976710656 := by
  have h1 : (n + 1) / 4 * 4 ≤ n + 1 := Nat.div_mul_le_self (n + 1) 4
  generalize (n + 1) / 4 = q at h1 ⊢
  generalize n + 1 = m at h h1 ⊢
  have h2 : (m + q + 192) * 24 = m * 24 + q * 24 + 4608 := by rw [Nat.add_mul, Nat.add_mul]
  have h3 : q * 24 * 4 ≤ 200000000000000 := by
    have : q * 24 * 4 = q * 4 * 24 := by rw [Nat.mul_right_comm]
    rw [this]; exact Nat.le_trans (Nat.mul_le_mul_right 24 h1) h
  rw [h2]
  generalize q * 24 = b at h3 ⊢
  generalize m * 24 = a at h ⊢
  omega
theorem run_app_wide {P : Program} (w : World) (t ty : TypeId) (base : Nat) (e : TypeId) (i : TypeInfo) (z : Value) (ht : P.underlying t = some (.slice e)) (hi : P.info? e = some i) (hz : i.zero = some z)
    (hsize : i.size = 1) (hby : i.bytes = 24) (hzs : z.cells.size = 1)
    (v : Value) (n : Nat) (xs : List Value) (hown : w.ownsRow base e 1 v n xs)
    (ad : Addr) (c : Nat) (news : List Value) (hl : news.length = 1) (hnews : ∀ j u, news[j]? = some u → w.cell? (ad.add j) = some u) (h1 : ∀ u ∈ news, u.oneCell' = true)
    (hbytes : (n + 1) * 24 ≤ 200000000000000) (hbase : base ≤ w.heap.size) (H : Nat) (hH : w.heap.size = H) :
    ∃ g cap w', (Builtin.append_ #[t, t] ty #[v, .slice (some ad) 1 c]).run P w = .ok (.slice (some ⟨g, 0, none⟩) (n + 1) cap) w' ∧
      w'.ownsRow base e 1 (.slice (some ⟨g, 0, none⟩) (n + 1) cap) (n + 1) (xs ++ news) ∧ w.grownBy w' v.ownBlock ∧ (v.ownBlock = some g ∨ g = H) ∧ g < w'.heap.size := by
  have hw := wide_fits hbytes
  obtain ⟨v', w', hr, h2, h3, _⟩ := run_append_own_wide (P := P) w base t ty e i z 1 24 ht hi hz hsize hby hzs (by decide) v n xs hown ad 1 c news (by omega) hnews h1 (by unfold maxLen; omega) hw hbase
  obtain ⟨g, cap, rfl, _, hlt⟩ := h2.form (by omega)
  refine ⟨g, cap, w', hr, h2, h3, ?_, hlt⟩
  have hl' : news.length = 1 * i.size := by rw [hsize]; omega
  rcases hown.2 with ⟨rfl, rfl⟩ | ⟨g0, cap0, cur, rfl, hbg, hg, hnc, hcm, hcs, htake⟩
  · have hq := run_append_nil (P := P) w t ty e i z ht hi hz ad 1 c news hl' hnews (by omega) (by omega) (by rw [hby]; omega)
    have he := hr.symm.trans hq
    simp only [Result.ok.injEq, Value.slice.injEq, Option.some.injEq, Addr.mk.injEq] at he
    right; omega
  · by_cases hroom : n + 1 ≤ cap0
    · have hfit : n * i.size + news.length ≤ cur.size := by rw [hl, hcs, hsize]; omega
      have hq := run_append_room (P := P) w t ty e i ht hi g0 n cap0 cur hg ad 1 c news hl' hnews h1 hroom hfit
      have he := hr.symm.trans hq
      simp only [Result.ok.injEq, Value.slice.injEq, Option.some.injEq, Addr.mk.injEq] at he
      left
      simp only [Value.ownBlock, Option.some.injEq]
      omega
    · have holds : ∀ j u, xs[j]? = some u → w.cell? ((⟨g0, 0, none⟩ : Addr).add j) = some u := hown.cells (g := g0) rfl
      have hq := run_append_grow (P := P) w t ty e i z ht hi hz ⟨g0, 0, none⟩ n cap0 xs (by rw [hown.1, hsize]) holds ad 1 c news hl' hnews (by omega) (by omega) (growslice_fits_wide (by omega) (by rw [hby]; exact hw))
      have he := hr.symm.trans hq
      simp only [Result.ok.injEq, Value.slice.injEq, Option.some.injEq, Addr.mk.injEq] at he
      right; omega
theorem step_app_wide {P : Program} (w : World) {ops : Array Oper} {o : Oper} {a : Act} {K : Act → World → Prop} {Q : Exit → Act → World → Prop} {E : Prop} (hgd : o.guard = none) (s x : Operand) (t : TypeId)
    (ho : o.op = .call { callee := .builtin .append, args := #[s, x], argTypes := #[t, t] })
    (base : Nat) (e : TypeId) (i : TypeInfo) (z : Value) (ht : P.underlying t = some (.slice e)) (hi : P.info? e = some i) (hz : i.zero = some z)
    (hsize : i.size = 1) (hby : i.bytes = 24) (hzs : z.cells.size = 1)
    (v : Value) (n : Nat) (xs : List Value) (hs : a.eval s = v) (hown : w.ownsRow base e 1 v n xs)
    (ad : Addr) (c : Nat) (news : List Value) (hx : a.eval x = .slice (some ad) 1 c) (hl : news.length = 1) (hnews : ∀ j u, news[j]? = some u → w.cell? (ad.add j) = some u) (h1 : ∀ u ∈ news, u.oneCell' = true)
    (hbytes : (n + 1) * 24 ≤ 200000000000000) (hbase : base ≤ w.heap.size) (H : Nat) (hH : w.heap.size = H)
    (h : ∀ g cap w', w'.ownsRow base e 1 (.slice (some ⟨g, 0, none⟩) (n + 1) cap) (n + 1) (xs ++ news) → w.grownBy w' v.ownBlock → (v.ownBlock = some g ∨ g = H) → g < w'.heap.size → K (a.put o.dst (.slice (some ⟨g, 0, none⟩) (n + 1) cap)) w') :
    if Region.wanted o (yielded ops a.tmps) = true then Oper.wp P o a w K Q else E := by
  rw [if_pos (show Region.wanted o (yielded ops a.tmps) = true by simp [Region.wanted, hgd])]
  obtain ⟨g, cap, w', hr, h2, h3, h4, h5⟩ := run_app_wide w t o.type base e i z ht hi hz hsize hby hzs v n xs hown ad c news hl hnews h1 hbytes hbase H hH
  unfold Oper.wp execOp
  simp only [ho, resolve, invoke, builtin, Sem.run_bind, Sem.run_pure, Result.andThen_ok, List.map_toArray, List.map_cons, List.map_nil, hs, hx, hr]
  exact h g cap w' h2 h3 h4 h5
end Go.Proofs.YtgehbfnfhjpjbaaDoor
