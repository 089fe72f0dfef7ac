/- Rows of threes. -/
import Derived.Test.YtilmlgngnbokfaaAn
import Derived.Test.YtilmlgngnbokfaaBx
namespace Go.Proofs.Ytilmlgngnbokfaa
set_option linter.unusedVariables false
set_option linter.unusedSimpArgs false
open Go Go.RowKit

def flat3 (cr : List (Int × Int × Int)) : List Value := cr.flatMap fun s => [I s.1, I s.2.1, I s.2.2]
theorem flat3_length : ∀ cr : List (Int × Int × Int), (flat3 cr).length = cr.length * 3
  | [] => rfl
  | s :: cr => by
    have := flat3_length cr
    show (flat3 cr).length + 1 + 1 + 1 = _
    rw [this]; simp; omega
theorem flat3_get : ∀ (cr : List (Int × Int × Int)) (k : Nat) (h : k < cr.length), (flat3 cr)[k * 3]? = some (I cr[k].1) ∧ (flat3 cr)[k * 3 + 1]? = some (I cr[k].2.1) ∧ (flat3 cr)[k * 3 + 2]? = some (I cr[k].2.2)
  | [], k, h => by simp at h
  | s :: cr, 0, _ => by simp [flat3]
  | s :: cr, k + 1, h => by
    have ih := flat3_get cr k (by simpa using h)
    have e1 : (k + 1) * 3 = k * 3 + 3 := by omega
    rw [e1]
    exact ih
theorem threes_flat {w : World} {b off : Nat} {cr : List (Int × Int × Int)} (h : ∀ k (h : k < cr.length), w.cell? ⟨b, off + k * 3, none⟩ = some (I cr[k].1) ∧ w.cell? ⟨b, off + k * 3 + 1, none⟩ = some (I cr[k].2.1) ∧ w.cell? ⟨b, off + k * 3 + 2, none⟩ = some (I cr[k].2.2)) :
    ∀ j u, (flat3 cr)[j]? = some u → w.cell? ((⟨b, off, none⟩ : Addr).add j) = some u := by
  intro j u hu
  rw [Addr.add_lit]
  have hlt : j < cr.length * 3 := by
    have := (List.getElem?_eq_some_iff.1 hu).1
    rwa [flat3_length] at this
  obtain ⟨f1, f2, f3⟩ := flat3_get cr (j / 3) (by omega)
  obtain ⟨c1, c2, c3⟩ := h (j / 3) (by omega)
  have h3 : j = j / 3 * 3 ∨ j = j / 3 * 3 + 1 ∨ j = j / 3 * 3 + 2 := by omega
  rcases h3 with h0 | h0 | h0
  · rw [h0] at hu ⊢
    rw [f1] at hu; rw [c1, hu]
  · rw [h0] at hu ⊢
    rw [f2] at hu; rw [show off + (j / 3 * 3 + 1) = off + j / 3 * 3 + 1 by omega, c2, hu]
  · rw [h0] at hu ⊢
    rw [f3] at hu; rw [show off + (j / 3 * 3 + 2) = off + j / 3 * 3 + 2 by omega, c3, hu]
theorem flat3_one (cr : List (Int × Int × Int)) : ∀ u ∈ flat3 cr, u.oneCell' = true := fun u hu => by
  obtain ⟨s, _, hs⟩ := List.mem_flatMap.1 hu
  simp at hs
  rcases hs with rfl | rfl | rfl <;> rfl
theorem threes_of_own {W : World} {base n c : Nat} {A : Option Addr} {xs : List (Int × Int × Int)} {e : TypeId} (h : W.ownsRow base e 3 (.slice A n c) n (flat3 xs)) (hn : n = xs.length) : Threes W W.heap.size A xs := fun h0 => by
  rcases h.2 with ⟨h1, h2⟩ | ⟨g, cap, cur, h1, _⟩
  · omega
  · injection h1 with hA _ _
    subst hA
    refine ⟨g, 0, rfl, (h.lt g rfl).2, fun k hk => ?_⟩
    obtain ⟨f1, f2, f3⟩ := flat3_get xs k hk
    have e1 := h.cells (g := g) rfl _ _ f1
    have e2 := h.cells (g := g) rfl _ _ f2
    have e3 := h.cells (g := g) rfl _ _ f3
    rw [Addr.add_lit] at e1 e2 e3
    exact ⟨e1, e2, e3⟩
theorem threes_cells {W : World} {B : Nat} {A : Option Addr} {xs : List (Int × Int × Int)} (h : Threes W B A xs) : 0 < xs.length → ∃ ad, A = some ad ∧ ∀ j u, (flat3 xs)[j]? = some u → W.cell? (ad.add j) = some u := fun h0 => by
  obtain ⟨b, off, rfl, hb, hc⟩ := h h0
  exact ⟨_, rfl, threes_flat hc⟩
section
variable {F : Fence} {n : Nat} {P : Program} {Q : Exit → Act → World → Prop}
theorem opIn_append_any (hro : F.round = none) (w : World) {o : Oper} {a : Act} {K : Act → World → Prop} (s x : Operand) (t : TypeId)
    (ho : o.op = .call { callee := .builtin .append, args := #[s, x], argTypes := #[t, t] })
    (base : Nat) (e : TypeId) (i : TypeInfo) (z : Value) (size bytes : Nat) (ht : P.underlying t = some (.slice e)) (hi : P.info? e = some i) (hz : i.zero = some z)
    (hsize : i.size = size) (hby : i.bytes = bytes) (hzs : z.cells.size = size) (hsz : 0 < size)
    (v : Value) (k : Nat) (xs : List Value) (hs : a.eval s = v) (hown : w.ownsRow base e size v k xs)
    (A : Option Addr) (m c : Nat) (news : List Value) (hx : a.eval x = .slice A m c) (hl : news.length = m * size) (hnews : 0 < m → ∃ ad, A = some ad ∧ ∀ j u, news[j]? = some u → w.cell? (ad.add j) = some u) (h1 : ∀ u ∈ news, u.oneCell' = true)
    (h63 : k + m ≤ maxLen) (hbytes : (k + m) * bytes ≤ 140737488355328) (hbase : base ≤ w.heap.size)
    (h : ∀ v' w', w'.ownsRow base e size v' (k + m) (xs ++ news) → w.grownBy w' v.ownBlock → K (a.put o.dst v') w') : o.wpIn F n P a w K Q := by
  obtain ⟨v', w', hr, h2, h3⟩ := run_append_any (P := P) w base t o.type e i z size bytes ht hi hz hsize hby hzs hsz v k xs hown A m c news hl hnews h1 h63 hbytes hbase
  unfold Oper.wpIn
  refine ⟨?_, ?_⟩
  · simp [Oper.about, ho, resolve, Target.leads, Sem.run_pure]
  · rw [hro, Oper.semAt_none]
    simp only [execOp, ho, resolve, invoke, builtin, Sem.run_bind, Sem.run_pure, Result.andThen_ok, List.map_toArray, List.map_cons, List.map_nil, hs, hx, hr]
    exact h v' w' h2 h3
end
theorem slice_of_own3 {W : World} {base n : Nat} {v : Value} {xs : List Value} {e : TypeId} {size : Nat} (h : W.ownsRow base e size v n xs) : ∃ A c, v = .slice A n c := by
  rcases h.2 with ⟨h1, h2⟩ | ⟨g, cap, cur, h1, _⟩
  · exact ⟨none, 0, by rw [h1, h2]⟩
  · exact ⟨_, _, h1⟩
theorem info55b : (Try.prog.info? 55).map (fun i => (i.zero, i.size, i.bytes)) = some (some (.agg #[.int .i64 0, .int .i64 0, .int .i64 0]), 3, 24) := by kernel_rfl
end Go.Proofs.Ytilmlgngnbokfaa
