/- A block of one's own, known cell by cell; an append inside a region that draws its order. -/
import Derived.Test.YtilmlgngnbokfaaX4
import Derived.Deep.DeepCutAuto
namespace Go.Proofs.Ytilmlgngnbokfaa
set_option linter.unusedVariables false
set_option linter.unusedSimpArgs false
open Go Go.RowKit

/-- Block b holds just vs, and may be written. -/
def Box (W : World) (b : Nat) (vs : List Value) : Prop := b < W.heap.size ∧ ∀ k (h : k < vs.length), W.cell? ⟨b, k, none⟩ = some vs[k] ∧ W.frozen? ⟨b, k, none⟩ = false
section
variable {W W' : World} {b : Nat} {vs : List Value}
theorem Box.keep (h : Box W b vs) (hz : W.heap.size ≤ W'.heap.size) (hc : ∀ o, W'.cell? ⟨b, o, none⟩ = W.cell? ⟨b, o, none⟩) (hf : ∀ o, W'.frozen? ⟨b, o, none⟩ = W.frozen? ⟨b, o, none⟩) : Box W' b vs :=
  ⟨Nat.lt_of_lt_of_le h.1 hz, fun k hk => ⟨(hc k).trans (h.2 k hk).1, (hf k).trans (h.2 k hk).2⟩⟩
theorem Box.below {B : Nat} (h : Box W b vs) (hB : Below B W W') (hb : b < B) : Box W' b vs := h.keep hB.size (fun o => hB.cell (p := ⟨b, o, none⟩) hb) (fun o => hB.frozen (p := ⟨b, o, none⟩) hb)
theorem Box.call (h : Box W b vs) (hB : Below W.heap.size W W') : Box W' b vs := h.below hB h.1
theorem Box.grown {row : Option Nat} (h : Box W b vs) (hg : W.grownBy W' row) (hr : row ≠ some b) : Box W' b vs :=
  have hb := hg.block b h.1 (fun e => hr e.symm)
  h.keep hg.size (fun o => World.cell?_of_block hb) (fun o => World.frozen?_of_block hb)
theorem Box.drew (h : Box W b vs) : Box W.drew b vs := h
theorem Box.drewN (h : Box W b vs) (n : Nat) : Box (W.drewN n) b vs := h
theorem Box.alloc (h : Box W b vs) (o : Obj) : Box (W.alloc o) b vs := h.call ((Below.refl _ _).alloc (Nat.le_refl _) o)
theorem Box.far (h : Box W b vs) {p : Addr} (hp : p.block ≠ b) (u : Value) : Box (W.setCell p u) b vs :=
  have hb := Below.heap_setCell W p u b (Ne.symm hp)
  h.keep (by simp) (fun o => World.cell?_of_block hb) (fun o => World.frozen?_of_block hb)
theorem Box.set (h : Box W b vs) (j : Nat) (u : Value) : Box (W.setCell ⟨b, j, none⟩ u) b (vs.set j u) := by
  refine ⟨by simpa using h.1, fun k hk => ⟨?_, by simpa [go_sem] using (h.2 k (by simpa using hk)).2⟩⟩
  have hk' : k < vs.length := by simpa using hk
  have hc := (h.2 k hk').1
  rw [List.getElem_set]
  by_cases e : j = k
  · subst e
    simp [go_sem, hc]
  · rw [if_neg e, World.cell?_setCell_other _ _ _ _ (by simp; try omega)]
    exact hc
theorem Box.new (W : World) (vs : List Value) (t : TypeId) : Box (W.alloc (.cells vs.toArray t)) W.heap.size vs := by
  refine ⟨by simp, fun k hk => ⟨?_, by simp [go_sem]⟩⟩
  simp [go_sem]
theorem Box.at_ (h : Box W b vs) (k : Nat) (v : Value) (hv : vs[k]? = some v) : W.cell? ⟨b, k, none⟩ = some v ∧ W.frozen? ⟨b, k, none⟩ = false := by
  obtain ⟨hk, rfl⟩ := List.getElem?_eq_some_iff.1 hv
  exact h.2 k hk
theorem grown_below {row : Option Nat} (hg : W.grownBy W' row) {B : Nat} (hB : B ≤ W.heap.size) (hr : ∀ k, row = some k → B ≤ k) : Below B W W' := (Below.refl B W).grown hg hB hr
end
theorem ints_of_own {W : World} {base n c : Nat} {A : Option Addr} {xs : List Int} {e : TypeId} (h : W.ownsRow base e 1 (.slice A n c) n (xs.map I)) (hn : n = xs.length) : Ints W W.heap.size A xs := fun h0 => by
  rcases own_form h with ⟨h1, h2⟩ | ⟨g, cap, h1, h2, h3, _⟩
  · omega
  · injection h1 with hA _ _
    subst hA
    refine ⟨g, 0, rfl, h3, fun k hk => ?_⟩
    have := h.cells (g := g) rfl k (I xs[k]) (by simp [hk])
    rw [← this]
    congr 1
    unfold Addr.add
    split <;> simp_all

section
variable {F : Fence} {n : Nat} {P : Program} {Q : Exit → Act → World → Prop}
theorem opIn_append_own (hro : F.round = none) (w : World) {o : Oper} {a : Act} {K : Act → World → Prop} (s x : Operand) (t : TypeId)
    (ho : o.op = .call { callee := .builtin .append, args := #[s, x], argTypes := #[t, t] })
    (base : Nat) (e : TypeId) (i : TypeInfo) (z : Value) (size bytes : Nat) (ht : P.underlying t = some (.slice e)) (hi : P.info? e = some i) (hz : i.zero = some z)
    (hsize : i.size = size) (hby : i.bytes = bytes) (hzs : z.cells.size = size) (hsz : 0 < size)
    (v : Value) (k : Nat) (xs : List Value) (hs : a.eval s = v) (hown : w.ownsRow base e size v k xs)
    (ad : Addr) (m c : Nat) (news : List Value) (hx : a.eval x = .slice (some ad) m c) (hl : news.length = m * size) (hnews : ∀ j u, news[j]? = some u → w.cell? (ad.add j) = some u) (h1 : ∀ u ∈ news, u.oneCell' = true)
    (h63 : k + m ≤ maxLen) (hbytes : (k + m) * bytes ≤ 140737488355328) (hbase : base ≤ w.heap.size)
    (h : ∀ v' w', w'.ownsRow base e size v' (k + m) (xs ++ news) → w.grownBy w' v.ownBlock → (v' = .slice none 0 0 ↔ v = .slice none 0 0 ∧ m = 0) → K (a.put o.dst v') w') : o.wpIn F n P a w K Q := by
  obtain ⟨v', w', hr, h2, h3, h4⟩ := run_append_own (P := P) w base t o.type e i z size bytes ht hi hz hsize hby hzs hsz v k xs hown ad m c news hl hnews h1 h63 hbytes hbase
  unfold Oper.wpIn
  refine ⟨?_, ?_⟩
  · simp [Oper.about, ho, resolve, Target.leads, Sem.run_pure]
  · rw [hro, Oper.semAt_none]
    simp only [execOp, ho, resolve, invoke, builtin, Sem.run_bind, Sem.run_pure, Result.andThen_ok, List.map_toArray, List.map_cons, List.map_nil, hs, hx, hr]
    exact h v' w' h2 h3 h4
end
end Go.Proofs.Ytilmlgngnbokfaa
