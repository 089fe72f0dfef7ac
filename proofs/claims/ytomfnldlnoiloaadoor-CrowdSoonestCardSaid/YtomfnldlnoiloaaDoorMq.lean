/- Maps at an operation: a look-up, the two halves of 'm[k] = f(m[k])'. -/
import Derived.Test.YtomfnldlnoiloaaDoorNt
import Derived.Maps.OwnOps
import Derived.Deep.AppendLies
namespace Go.Proofs.YtomfnldlnoiloaaDoor
set_option linter.unusedVariables false
set_option linter.unusedSimpArgs false
open Go Go.RowKit Go.Maps

section
variable {P : Program} {k : TypeId} (w : World) {ops : Array Oper} {rest : List Oper} {o : Oper} {a : Act} {Q : Exit → Act → World → Prop} {F : Fence} {nF : Nat}
theorem wpList_lookup_at (hg : o.guard = none) (m x : Operand) (t : TypeId) (hop : o.op = Op.lookup t m x false) (e : TypeId) (K : Keyed P k) (ht : P.underlying t = some (.map k e)) {z : Value} (hz : (zeroValue e).run P w = .ok z w) (b n : Nat) (f : Value → Option Value)
    (hm : a.eval m = .map (some b)) (h : MapAt P k w b n f) (key : Value) (hx : a.eval x = key) (hk : IsK P k key) (hK : wpList P ops Q rest (a.put o.dst ((f key).getD z)) w) : wpList P ops Q (o :: rest) a w := by
  refine wpList_plain hg fun K' hK' => ?_
  have hrun := h.lookup K ht hz hk
  unfold Oper.wp
  simp [execOp, hop, hm, hx, hrun, Result.andThen]
  exact hK' _ _ hK
theorem wpListIn_lookup_at (hg : o.guard = none) (m x : Operand) (t : TypeId) (hop : o.op = Op.lookup t m x false) (e : TypeId) (K : Keyed P k) (ht : P.underlying t = some (.map k e)) {z : Value} (hz : (zeroValue e).run P w = .ok z w) (b n : Nat) (f : Value → Option Value)
    (hm : a.eval m = .map (some b)) (h : MapAt P k w b n f) (key : Value) (hx : a.eval x = key) (hk : IsK P k key) (hK : wpListIn F nF P ops Q rest (a.put o.dst ((f key).getD z)) w) : wpListIn F nF P ops Q (o :: rest) a w := by
  refine wpListIn_plain hg fun K' hK' => ?_
  have hrun := h.lookup K ht hz hk
  unfold Oper.wpIn
  refine ⟨by simp [Oper.about, hop], ?_⟩
  rw [Oper.semAt_plain F _ _ (by rw [hop]; intro c hc'; cases hc')]
  simp [execOp, hop, hm, hx, hrun, Result.andThen]
  exact hK' _ _ hK
theorem wpList_entry_at (hg : o.guard = none) (m x : Operand) (t : TypeId) (hop : o.op = Op.mapEntry t m x) (e : TypeId) (K : Keyed P k) (ht : P.underlying t = some (.map k e)) {z : Value} (hz : ∀ u : World, (zeroValue e).run P u = .ok z u) (b n : Nat) (f : Value → Option Value)
    (hm : a.eval m = .map (some b)) (h : MapAt P k w b n f) (key : Value) (hx : a.eval x = key) (hk : IsK P k key)
    (v0 : Value) (h0 : (f key).getD z = v0) (Pw : World → Prop) (hp : Pw w)
    (hK : ∀ W w' st, Pw W → EntAt P k w' b (n + 1) (putF f key v0) key st → W.grownBy w' (some b) → w'.heap.size = W.heap.size → wpList P ops Q rest (a.put o.dst (.tuple #[v0, goInt st])) w') : wpList P ops Q (o :: rest) a w := by
  refine wpList_plain hg fun K' hK' => ?_
  obtain ⟨w', st, hrun, r1, r2, r3⟩ := h.entry K ht hz hk
  rw [h0] at hrun r1
  unfold Oper.wp
  simp [execOp, hop, hm, hx, hrun, Result.andThen]
  exact hK' _ _ (hK w w' st hp r1 r2 r3)
theorem wpList_put_at (hg : o.guard = none) (m x v : Operand) (t : TypeId) (hop : o.op = Op.entryStore t m x v) (b n st : Nat) (f : Value → Option Value) (key : Value)
    (hm : a.eval m = .map (some b)) (h : EntAt P k w b n f key st) (hx : a.eval x = goInt st) (val : Value) (hv : a.eval v = val)
    (hK : ∀ w', MapAt P k w' b n (putF f key val) → w.grownBy w' (some b) → w'.heap.size = w.heap.size → wpList P ops Q rest (a.put o.dst undef) w') : wpList P ops Q (o :: rest) a w := by
  refine wpList_plain hg fun K' hK' => ?_
  obtain ⟨w', hrun, r1, r2, r3⟩ := h.put (t := t) val
  unfold Oper.wp
  simp [execOp, hop, hm, hx, hv, hrun, Result.andThen]
  exact hK' _ _ (hK w' r1 r2 r3)
theorem opIn_entry_at (hro : F.round = none) (m x : Operand) (t : TypeId) (hop : o.op = Op.mapEntry t m x) (e : TypeId) (K : Keyed P k) (ht : P.underlying t = some (.map k e)) {z : Value} (hz : ∀ u : World, (zeroValue e).run P u = .ok z u) (b n : Nat) (f : Value → Option Value)
    (hm : a.eval m = .map (some b)) (h : MapAt P k w b n f) (key : Value) (hx : a.eval x = key) (hk : IsK P k key) (v0 : Value) (h0 : (f key).getD z = v0) {Kc : Act → World → Prop}
    (hK : ∀ w' st, EntAt P k w' b (n + 1) (putF f key v0) key st → w.grownBy w' (some b) → w'.heap.size = w.heap.size → Kc (a.put o.dst (.tuple #[v0, goInt st])) w') : o.wpIn F nF P a w Kc Q := by
  obtain ⟨w', st, hrun, r1, r2, r3⟩ := h.entry K ht hz hk
  rw [h0] at hrun r1
  unfold Oper.wpIn
  refine ⟨by simp [Oper.about, hop], ?_⟩
  rw [hro, Oper.semAt_none]
  simp [execOp, hop, hm, hx, hrun, Result.andThen]
  exact hK w' st r1 r2 r3
theorem opIn_put_at (hro : F.round = none) (m x v : Operand) (t : TypeId) (hop : o.op = Op.entryStore t m x v) (b n st : Nat) (f : Value → Option Value) (key : Value)
    (hm : a.eval m = .map (some b)) (h : EntAt P k w b n f key st) (hx : a.eval x = goInt st) (val : Value) (hv : a.eval v = val) {Kc : Act → World → Prop}
    (hK : ∀ w', MapAt P k w' b n (putF f key val) → w.grownBy w' (some b) → w'.heap.size = w.heap.size → Kc (a.put o.dst undef) w') : o.wpIn F nF P a w Kc Q := by
  obtain ⟨w', hrun, r1, r2, r3⟩ := h.put (t := t) val
  unfold Oper.wpIn
  refine ⟨by simp [Oper.about, hop], ?_⟩
  rw [hro, Oper.semAt_none]
  simp [execOp, hop, hm, hx, hv, hrun, Result.andThen]
  exact hK w' r1 r2 r3
theorem opIn_append_lies (hro : F.round = none) (s x : Operand) (t : TypeId)
    (ho : o.op = .call { callee := .builtin .append, args := #[s, x], argTypes := #[t, t] })
    (base : Nat) (e : TypeId) (i : TypeInfo) (z : Value) (size bytes : Nat) (ht : P.underlying t = some (.slice e)) (hi : P.info? e = some i) (hz : i.zero = some z)
    (hsize : i.size = size) (hby : i.bytes = bytes) (hzs : z.cells.size = size) (hsz : 0 < size)
    (v : Value) (n : Nat) (xs : List Value) (hs : a.eval s = v) (hown : w.ownsRow base e size v n xs)
    (ad : Addr) (m c : Nat) (news : List Value) (hx : a.eval x = .slice (some ad) m c) (hl : news.length = m * size) (hnews : ∀ j u, news[j]? = some u → w.cell? (ad.add j) = some u) (h1 : ∀ u ∈ news, u.oneCell' = true)
    (hm : 0 < m) (h63 : n + m ≤ maxLen) (hbytes : (n + m) * bytes ≤ 140737488355328) (hbase : base ≤ w.heap.size) (H : Nat) (hH : w.heap.size = H) {Kc : Act → World → Prop}
    (h : ∀ g cap w', w'.ownsRow base e size (.slice (some ⟨g, 0, none⟩) (n + m) cap) (n + m) (xs ++ news) → w.grownBy w' v.ownBlock → (v.ownBlock = some g ∨ g = H) → g < w'.heap.size → Kc (a.put o.dst (.slice (some ⟨g, 0, none⟩) (n + m) cap)) w') : o.wpIn F nF P a w Kc Q := by
  obtain ⟨g, cap, w', hr, h2, h3, h4, h5⟩ := run_append_lies (P := P) w t o.type base e i z size bytes ht hi hz hsize hby hzs hsz v n xs hown ad m c news hl hnews h1 hm h63 hbytes hbase H hH
  unfold Oper.wpIn
  refine ⟨by simp [Oper.about, ho, resolve, Target.leads, Sem.run_pure], ?_⟩
  rw [hro, Oper.semAt_none]
  simp only [execOp, ho, resolve, invoke, builtin, Sem.run_bind, Sem.run_pure, Result.andThen_ok, List.map_toArray, List.map_cons, List.map_nil, hs, hx, hr]
  exact h g cap w' h2 h3 h4 h5
end
/-- A row of the network grew: what is there now. -/
theorem net_grown {base top N m : Nat} {k : Kt} {to_ : Stp → Nat} {outs : Nat → List Stp} {left : Stp → Int} {d : Nt} {w w1 w2 w3 : World} (h : NetAt base top N m k to_ outs left d w) (hk : KtOk k N) {x : Nat} (hx : x < N) {p : Stp} (hp : p.1 < m) {g cap : Nat}
    (g1 : w.grownBy w1 (some d.b)) (g2 : w1.grownBy w2 (d.rv x).ownBlock) (own : w2.ownsRow base 99 1 (.slice (some ⟨g, 0, none⟩) ((outs x).length + 1) cap) ((outs x).length + 1) ((outs x).map (fun p => ptr (d.blk p)) ++ [ptr (d.blk p)]))
    (hv : (d.rv x).ownBlock = some g ∨ g = w1.heap.size) (hg : g < w2.heap.size) (m3 : MapAt Tryd.prog 89 w3 d.b (d.nm + 1) (putF (putF d.f (k.v x) (d.rv x)) (k.v x) (.slice (some ⟨g, 0, none⟩) ((outs x).length + 1) cap))) (g3 : w2.grownBy w3 (some d.b)) :
    ∃ d3 : Nt, d3.b = d.b ∧ d3.nm = d.nm + 1 ∧ NetAt base w3.heap.size N m k to_ (fun y => if y = x then outs x ++ [p] else outs y) left d3 w3 ∧ d3.blk = d.blk ∧ Below base w w3 ∧ (∀ y, y < N → ∀ j, (d3.rv y).ownBlock = some j → (d.rv y).ownBlock = some j ∨ w1.heap.size ≤ j) ∧ ∀ j, j < w.heap.size → ((j ≠ d.b ∧ (d.rv x).ownBlock ≠ some j) ∨ ∃ q : Stp, q.1 < m ∧ j = d.blk q) → w3.heap[j]? = w.heap[j]? := by
  have hv' : ∀ g', (Value.slice (some ⟨g, 0, none⟩) ((outs x).length + 1) cap).ownBlock = some g' → ((d.rv x).ownBlock = some g' ∨ w1.heap.size ≤ g') ∧ g' < w2.heap.size := fun g' e => by
    obtain rfl : g = g' := by simpa [Value.ownBlock] using e
    exact ⟨hv.imp id fun e => by omega, hg⟩
  refine ⟨⟨d.b, d.nm + 1, _, _, d.blk⟩, rfl, rfl, h.grow hk hx hp rfl g1 g2 own hv' m3 g3, rfl, ?_, fun y hy j hj => ?_, fun j hj hq => ?_⟩
  · have hz := h.top
    have hb := h.mb
    refine (((Below.refl base w).grown g1 (by omega) (fun r e => by cases e; exact h.mb.1)).grown g2 (by have := g1.size; omega) (fun r e => (own_block (h.row x hx) e).1)).grown g3 (by have := g1.size; have := g2.size; omega) (fun r e => by cases e; exact h.mb.1)
  · dsimp only at hj
    by_cases e : y = x
    · rw [if_pos e] at hj
      rw [e]
      exact (hv' j hj).1
    · rw [if_neg e] at hj
      exact .inl hj
  · obtain ⟨h1, h2⟩ : j ≠ d.b ∧ (d.rv x).ownBlock ≠ some j := by
      rcases hq with hq | ⟨q, hq, rfl⟩
      · exact hq
      · refine ⟨fun e => ?_, fun e => h.apart q x _ hq hx e rfl⟩
        obtain ⟨c, t, z, hc⟩ := h.none_arc hq
        exact h.map.not_cells hc e.symm
    rw [g3.block j (by have := g1.size; have := g2.size; omega) (fun e => h1 (by cases e; rfl)), g2.block j (by have := g1.size; omega) (fun e => h2 e.symm), g1.block j hj (fun e => h1 (by cases e; rfl))]
end Go.Proofs.YtomfnldlnoiloaaDoor
