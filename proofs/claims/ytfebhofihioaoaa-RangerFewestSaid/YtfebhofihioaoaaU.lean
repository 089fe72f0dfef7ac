/- Words for memory: rows and blocks of one's own, appends, rows of spots. -/
import Derived.Test.YtfebhofihioaoaaB
import Derived.Test.YtfebhofihioaoaaPw
import Derived.Test.YtfebhofihioaoaaPj
import Derived.Maps.AppendAt
import Derived.Deep.DeepCutAuto
import Derived.Deep.Upon
namespace Go.Proofs.Ytfebhofihioaoaa
set_option linter.unusedVariables false
set_option linter.unusedSimpArgs false
open Go Go.RowKit

theorem own_form {w : World} {base n : Nat} {e : TypeId} {v : Value} {xs : List Value} (h : w.ownsRow base e 1 v n xs) :
    (v = .slice none 0 0 ∧ n = 0) ∨ ∃ g cap, v = .slice (some ⟨g, 0, none⟩) n cap ∧ base ≤ g ∧ g < w.heap.size ∧ n ≤ cap ∧ cap ≤ 9223372036854775807 := by
  rcases h.2 with h1 | ⟨g, cap, cur, rfl, hb, hc, h3, h4, _⟩
  · exact .inl ⟨h1.1, h1.2⟩
  · exact .inr ⟨g, cap, rfl, (h.lt g rfl).1, (h.lt g rfl).2, h3, by simpa [maxLen] using h4⟩

theorem getD_get {zs : List Int} {j : Nat} (h : j < zs.length) : zs.getD j 0 = zs[j] := by simp [List.getD, h]
theorem grown_own {w w' : World} {base n : Nat} {e : TypeId} {v : Value} {xs : List Value} {size : Nat} (h : w.ownsRow base e size v n xs) (hB : Below w.heap.size w w') : w'.ownsRow base e size v n xs :=
  h.kept (row := none) ⟨hB.os, hB.tape, hB.output, hB.size, fun k hk _ => hB.block k hk⟩ (by cases h0 : v.ownBlock <;> simp)

/-- Block b holds just vs, and may be written. -/
def Box (W : World) (b : Nat) (vs : List Value) : Prop := b < W.heap.size ∧ ∀ k (h : k < vs.length), W.cell? ⟨b, k, none⟩ = some vs[k] ∧ W.frozen? ⟨b, k, none⟩ = false
section
variable {W W' : World} {b : Nat} {vs : List Value}
theorem Box.keep (h : Box W b vs) (hz : W.heap.size ≤ W'.heap.size) (hc : ∀ o, W'.cell? ⟨b, o, none⟩ = W.cell? ⟨b, o, none⟩) (hf : ∀ o, W'.frozen? ⟨b, o, none⟩ = W.frozen? ⟨b, o, none⟩) : Box W' b vs :=
  ⟨Nat.lt_of_lt_of_le h.1 hz, fun k hk => ⟨(hc k).trans (h.2 k hk).1, (hf k).trans (h.2 k hk).2⟩⟩
theorem Box.below {B : Nat} (h : Box W b vs) (hB : Below B W W') (hb : b < B) : Box W' b vs := h.keep hB.size (fun o => hB.cell (p := ⟨b, o, none⟩) hb) (fun o => hB.frozen (p := ⟨b, o, none⟩) hb)
theorem Box.call (h : Box W b vs) (hB : Below W.heap.size W W') : Box W' b vs := h.below hB h.1
theorem Box.grown {row : Option Nat} (h : Box W b vs) (hg : W.grownBy W' row) (hr : row ≠ some b) : Box W' b vs :=
  have hb := hg.block b h.1 (fun e => hr e.symm)
  h.keep hg.size (fun o => World.cell?_of_block hb) (fun o => World.frozen?_of_block hb)
theorem Box.drew (h : Box W b vs) : Box W.drew b vs := h
theorem Box.drewN (h : Box W b vs) (n : Nat) : Box (W.drewN n) b vs := h
theorem Box.alloc (h : Box W b vs) (o : Obj) : Box (W.alloc o) b vs := h.call ((Below.refl _ _).alloc (Nat.le_refl _) o)
theorem Box.far (h : Box W b vs) {p : Addr} (hp : p.block ≠ b) (u : Value) : Box (W.setCell p u) b vs :=
  have hb := Below.heap_setCell W p u b (Ne.symm hp)
  h.keep (by simp) (fun o => World.cell?_of_block hb) (fun o => World.frozen?_of_block hb)
theorem Box.set (h : Box W b vs) (j : Nat) (u : Value) : Box (W.setCell ⟨b, j, none⟩ u) b (vs.set j u) := by
  refine ⟨by simpa using h.1, fun k hk => ⟨?_, by simpa [go_sem] using (h.2 k (by simpa using hk)).2⟩⟩
  have hk' : k < vs.length := by simpa using hk
  have hc := (h.2 k hk').1
  rw [List.getElem_set]
  by_cases e : j = k
  · subst e
    simp [go_sem, hc]
  · rw [if_neg e, World.cell?_setCell_other _ _ _ _ (by simp; try omega)]
    exact hc
theorem Box.new (W : World) (vs : List Value) (t : TypeId) : Box (W.alloc (.cells vs.toArray t)) W.heap.size vs := by
  refine ⟨by simp, fun k hk => ⟨?_, by simp [go_sem]⟩⟩
  simp [go_sem]
theorem Box.at_ (h : Box W b vs) (k : Nat) (v : Value) (hv : vs[k]? = some v) : W.cell? ⟨b, k, none⟩ = some v ∧ W.frozen? ⟨b, k, none⟩ = false := by
  obtain ⟨hk, rfl⟩ := List.getElem?_eq_some_iff.1 hv
  exact h.2 k hk
theorem grown_below {row : Option Nat} (hg : W.grownBy W' row) {B : Nat} (hB : B ≤ W.heap.size) (hr : ∀ k, row = some k → B ≤ k) : Below B W W' := (Below.refl B W).grown hg hB hr
end
theorem ints_of_own {W : World} {base n c : Nat} {A : Option Addr} {xs : List Int} {e : TypeId} (h : W.ownsRow base e 1 (.slice A n c) n (xs.map I)) (hn : n = xs.length) : Ints W W.heap.size A xs := fun h0 => by
  rcases own_form h with ⟨h1, h2⟩ | ⟨g, cap, h1, h2, h3, _⟩
  · omega
  · injection h1 with hA _ _
    subst hA
    refine ⟨g, 0, rfl, h3, fun k hk => ?_⟩
    have := h.cells (g := g) rfl k (I xs[k]) (by simp [hk])
    rw [← this]
    congr 1
    unfold Addr.add
    split <;> simp_all

section
variable {F : Fence} {n : Nat} {P : Program} {Q : Exit → Act → World → Prop}
theorem opIn_append_own (hro : F.round = none) (w : World) {o : Oper} {a : Act} {K : Act → World → Prop} (s x : Operand) (t : TypeId)
    (ho : o.op = .call { callee := .builtin .append, args := #[s, x], argTypes := #[t, t] })
    (base : Nat) (e : TypeId) (i : TypeInfo) (z : Value) (size bytes : Nat) (ht : P.underlying t = some (.slice e)) (hi : P.info? e = some i) (hz : i.zero = some z)
    (hsize : i.size = size) (hby : i.bytes = bytes) (hzs : z.cells.size = size) (hsz : 0 < size)
    (v : Value) (k : Nat) (xs : List Value) (hs : a.eval s = v) (hown : w.ownsRow base e size v k xs)
    (ad : Addr) (m c : Nat) (news : List Value) (hx : a.eval x = .slice (some ad) m c) (hl : news.length = m * size) (hnews : ∀ j u, news[j]? = some u → w.cell? (ad.add j) = some u) (h1 : ∀ u ∈ news, u.oneCell' = true)
    (h63 : k + m ≤ maxLen) (hbytes : (k + m) * bytes ≤ 140737488355328) (hbase : base ≤ w.heap.size)
    (h : ∀ v' w', w'.ownsRow base e size v' (k + m) (xs ++ news) → w.grownBy w' v.ownBlock → (v' = .slice none 0 0 ↔ v = .slice none 0 0 ∧ m = 0) → K (a.put o.dst v') w') : o.wpIn F n P a w K Q := by
  obtain ⟨v', w', hr, h2, h3, h4⟩ := run_append_own (P := P) w base t o.type e i z size bytes ht hi hz hsize hby hzs hsz v k xs hown ad m c news hl hnews h1 h63 hbytes hbase
  unfold Oper.wpIn
  refine ⟨?_, ?_⟩
  · simp [Oper.about, ho, resolve, Target.leads, Sem.run_pure]
  · rw [hro, Oper.semAt_none]
    simp only [execOp, ho, resolve, invoke, builtin, Sem.run_bind, Sem.run_pure, Result.andThen_ok, List.map_toArray, List.map_cons, List.map_nil, hs, hx, hr]
    exact h v' w' h2 h3 h4
end
section
variable {P : Program}
theorem run_append_any (w : World) (base : Nat) (t ty e : TypeId) (i : TypeInfo) (z : Value) (size bytes : Nat) (ht : P.underlying t = some (.slice e)) (hi : P.info? e = some i) (hz : i.zero = some z)
    (hsize : i.size = size) (hby : i.bytes = bytes) (hzs : z.cells.size = size) (hsz : 0 < size)
    (v : Value) (k : Nat) (xs : List Value) (hown : w.ownsRow base e size v k xs)
    (A : Option Addr) (m c : Nat) (news : List Value) (hl : news.length = m * size) (hnews : 0 < m → ∃ ad, A = some ad ∧ ∀ j u, news[j]? = some u → w.cell? (ad.add j) = some u) (h1 : ∀ u ∈ news, u.oneCell' = true)
    (h63 : k + m ≤ maxLen) (hbytes : (k + m) * bytes ≤ 140737488355328) (hbase : base ≤ w.heap.size) :
    ∃ v' w', (Builtin.append_ #[t, t] ty #[v, .slice A m c]).run P w = .ok v' w' ∧ w'.ownsRow base e size v' (k + m) (xs ++ news) ∧ w.grownBy w' v.ownBlock := by
  rcases Nat.eq_zero_or_pos m with h0 | h0
  · subst h0
    obtain rfl : news = [] := List.eq_nil_of_length_eq_zero (by omega)
    have hsrc : Src P i.size t (.slice A 0 c) 0 [] w := by
      cases A with
      | none => exact Src.ofNil w ht c
      | some ad => exact Src.ofSlice w ht ad 0 c [] (by simp) (fun j u h => by simp at h) (fun u h => by simp at h)
    obtain ⟨b, m, hv, hle⟩ : ∃ b m, v = .slice b k m ∧ k ≤ m := by
      rcases hown.2 with ⟨h1, h2⟩ | ⟨g, cap, cur, h1, _, _, h4, _⟩
      · exact ⟨none, 0, by rw [h1, h2], by omega⟩
      · exact ⟨_, _, h1, h4⟩
    have hr := run_append_nothing (P := P) w t t ty e i ht hi b k m hle _ hsrc
    rw [← hv] at hr
    exact ⟨v, w, hr, by simpa using hown, ⟨rfl, rfl, rfl, Nat.le_refl _, fun _ _ _ => rfl⟩⟩
  · obtain ⟨ad, rfl, hc⟩ := hnews h0
    obtain ⟨v', w', hr, h2, h3, h4⟩ := run_append_own (P := P) w base t ty e i z size bytes ht hi hz hsize hby hzs hsz v k xs hown ad m c news hl hc h1 h63 hbytes hbase
    exact ⟨v', w', hr, h2, h3⟩
theorem wpList_append_any (w : World) {ops : Array Oper} {rest : List Oper} {o : Oper} {a : Act} {Q : Exit → Act → World → Prop} (hgd : o.guard = none) (s x : Operand) (t : TypeId)
    (ho : o.op = .call { callee := .builtin .append, args := #[s, x], argTypes := #[t, t] })
    (base : Nat) (e : TypeId) (i : TypeInfo) (z : Value) (size bytes : Nat) (ht : P.underlying t = some (.slice e)) (hi : P.info? e = some i) (hz : i.zero = some z)
    (hsize : i.size = size) (hby : i.bytes = bytes) (hzs : z.cells.size = size) (hsz : 0 < size)
    (v : Value) (k : Nat) (xs : List Value) (hs : a.eval s = v) (hown : w.ownsRow base e size v k xs)
    (A : Option Addr) (m c : Nat) (news : List Value) (hx : a.eval x = .slice A m c) (hl : news.length = m * size) (hnews : 0 < m → ∃ ad, A = some ad ∧ ∀ j u, news[j]? = some u → w.cell? (ad.add j) = some u) (h1 : ∀ u ∈ news, u.oneCell' = true)
    (h63 : k + m ≤ maxLen) (hbytes : (k + m) * bytes ≤ 140737488355328) (hbase : base ≤ w.heap.size)
    (h : ∀ v' w', w'.ownsRow base e size v' (k + m) (xs ++ news) → w.grownBy w' v.ownBlock → wpList P ops Q rest (a.put o.dst v') w') : wpList P ops Q (o :: rest) a w :=
  wpList_plain hgd fun _ hK => by
    obtain ⟨v', w', hr, h2, h3⟩ := run_append_any (P := P) w base t o.type e i z size bytes ht hi hz hsize hby hzs hsz v k xs hown A m c news hl hnews h1 h63 hbytes hbase
    unfold Oper.wp execOp
    simp only [ho, resolve, invoke, builtin, Sem.run_bind, Sem.run_pure, Result.andThen_ok, List.map_toArray, List.map_cons, List.map_nil, hs, hx, hr]
    exact hK _ _ (h v' w' h2 h3)
end

section
variable {F : Fence} {n : Nat} {P : Program} {Q : Exit → Act → World → Prop}
theorem opIn_append_at (hro : F.round = none) (w : World) {o : Oper} {a : Act} {K : Act → World → Prop} (s x : Operand) (t : TypeId)
    (ho : o.op = .call { callee := .builtin .append, args := #[s, x], argTypes := #[t, t] })
    (base : Nat) (e : TypeId) (i : TypeInfo) (z : Value) (size bytes : Nat) (ht : P.underlying t = some (.slice e)) (hi : P.info? e = some i) (hz : i.zero = some z)
    (hsize : i.size = size) (hby : i.bytes = bytes) (hzs : z.cells.size = size) (hsz : 0 < size)
    (v : Value) (k : Nat) (xs : List Value) (hs : a.eval s = v) (hown : w.ownsRow base e size v k xs)
    (ad : Addr) (m c : Nat) (news : List Value) (hx : a.eval x = .slice (some ad) m c) (hl : news.length = m * size) (hnews : ∀ j u, news[j]? = some u → w.cell? (ad.add j) = some u) (h1 : ∀ u ∈ news, u.oneCell' = true)
    (h63 : k + m ≤ maxLen) (hbytes : (k + m) * bytes ≤ 140737488355328) (hbase : base ≤ w.heap.size)
    (h : ∀ v' w', w'.ownsRow base e size v' (k + m) (xs ++ news) → w.grownBy w' v.ownBlock → (v'.ownBlock = v.ownBlock ∨ v'.ownBlock = some w.heap.size) → K (a.put o.dst v') w') : o.wpIn F n P a w K Q := by
  obtain ⟨v', w', hr, h2, h3, _, h4⟩ := run_append_own_at (P := P) w base t o.type e i z size bytes ht hi hz hsize hby hzs hsz v k xs hown ad m c news hl hnews h1 h63 hbytes hbase
  unfold Oper.wpIn
  refine ⟨?_, ?_⟩
  · simp [Oper.about, ho, resolve, Target.leads, Sem.run_pure]
  · rw [hro, Oper.semAt_none]
    simp only [execOp, ho, resolve, invoke, builtin, Sem.run_bind, Sem.run_pure, Result.andThen_ok, List.map_toArray, List.map_cons, List.map_nil, hs, hx, hr]
    exact h v' w' h2 h3 h4
theorem opIn_append_any (hro : F.round = none) (w : World) {o : Oper} {a : Act} {K : Act → World → Prop} (s x : Operand) (t : TypeId)
    (ho : o.op = .call { callee := .builtin .append, args := #[s, x], argTypes := #[t, t] })
    (base : Nat) (e : TypeId) (i : TypeInfo) (z : Value) (size bytes : Nat) (ht : P.underlying t = some (.slice e)) (hi : P.info? e = some i) (hz : i.zero = some z)
    (hsize : i.size = size) (hby : i.bytes = bytes) (hzs : z.cells.size = size) (hsz : 0 < size)
    (v : Value) (k : Nat) (xs : List Value) (hs : a.eval s = v) (hown : w.ownsRow base e size v k xs)
    (A : Option Addr) (m c : Nat) (news : List Value) (hx : a.eval x = .slice A m c) (hl : news.length = m * size) (hnews : 0 < m → ∃ ad, A = some ad ∧ ∀ j u, news[j]? = some u → w.cell? (ad.add j) = some u) (h1 : ∀ u ∈ news, u.oneCell' = true)
    (h63 : k + m ≤ maxLen) (hbytes : (k + m) * bytes ≤ 140737488355328) (hbase : base ≤ w.heap.size)
    (h : ∀ v' w', w'.ownsRow base e size v' (k + m) (xs ++ news) → w.grownBy w' v.ownBlock → K (a.put o.dst v') w') : o.wpIn F n P a w K Q := by
  obtain ⟨v', w', hr, h2, h3⟩ := run_append_any (P := P) w base t o.type e i z size bytes ht hi hz hsize hby hzs hsz v k xs hown A m c news hl hnews h1 h63 hbytes hbase
  unfold Oper.wpIn
  refine ⟨?_, ?_⟩
  · simp [Oper.about, ho, resolve, Target.leads, Sem.run_pure]
  · rw [hro, Oper.semAt_none]
    simp only [execOp, ho, resolve, invoke, builtin, Sem.run_bind, Sem.run_pure, Result.andThen_ok, List.map_toArray, List.map_cons, List.map_nil, hs, hx, hr]
    exact h v' w' h2 h3
theorem opIn_make_full (hro : F.round = none) (w : World) {o : Oper} {a : Act} {K : Act → World → Prop} (l c : Operand) (t : TypeId) (hop : o.op = Op.makeSlice t l c)
    (base : Nat) (e : TypeId) (i : TypeInfo) (z : Value) (size : Nat) (h1 : P.underlying t = some (.slice e)) (h2 : P.info? e = some i) (h3 : i.zero = some z) (h4 : i.size = size)
    (kl kc : IntKind) (m : Nat) (hl : a.eval l = .int kl m) (hc : a.eval c = .int kc m) (b2 : i.bytes * m ≤ 281474976710656) (b3 : m ≤ maxLen) (b4 : base ≤ w.heap.size)
    (h : ∀ w', w'.ownsRow base e size (.slice (some ⟨w.heap.size, 0, none⟩) m m) m (madeCells z.cells (m * size)).toList → w.grownBy w' none → K (a.put o.dst (.slice (some ⟨w.heap.size, 0, none⟩) m m)) w') : o.wpIn F n P a w K Q := by
  obtain ⟨w', hrun, r1, r2⟩ := run_make_full (P := P) w base t e i z size h1 h2 h3 h4 kl kc m b2 b3 b4
  unfold Oper.wpIn
  refine ⟨?_, ?_⟩
  · simp [Oper.about, hop, Sem.run_pure]
  · rw [hro, Oper.semAt_none]
    simp [execOp, hop, hl, hc, hrun, Result.andThen]
    exact h w' r1 r2
end
theorem own_at {w w' : World} {base n size : Nat} {e : TypeId} {v : Value} {xs : List Value} (h : w.ownsRow base e size v n xs) (hb : ∀ g, v.ownBlock = some g → w'.heap[g]? = w.heap[g]?) : w'.ownsRow base e size v n xs := by
  refine ⟨h.1, h.2.imp id ?_⟩
  rintro ⟨g, cap, cur, rfl, h2, h3, h4⟩
  exact ⟨g, cap, cur, rfl, h2, (hb g rfl).trans h3, h4⟩

theorem own_slice {W : World} {base n size : Nat} {e : TypeId} {v : Value} {xs : List Value} (h : W.ownsRow base e size v n xs) : ∃ A k c, v = .slice A k c := by
  rcases h.2 with ⟨h1, _⟩ | ⟨g, cap, cur, h1, _⟩ <;> exact ⟨_, _, _, h1⟩

theorem cell_one3 (w : World) (v : Value) (t : TypeId) : ∀ j u, [v][j]? = some u → (w.alloc (.cells #[v] t)).cell? ((⟨w.heap.size, 0, none⟩ : Addr).add j) = some u := fun j u hj => by
  rcases j with _ | j
  · simp at hj; subst hj; simp [Addr.add, go_sem]
  · simp at hj

theorem ints_ownN {W : World} {base n : Nat} {v : Value} {xs : List Int} {e : TypeId} (h : W.ownsRow base e 1 v n (xs.map I)) (hn : xs.length = n) :
    ∃ A c, v = .slice A xs.length c ∧ Ints W W.heap.size A xs := by
  rcases h.2 with ⟨h1, h2⟩ | ⟨g, cap, cur, rfl, _⟩
  · exact ⟨none, 0, by rw [h1, hn, h2], fun h => by omega⟩
  · subst hn
    exact ⟨_, _, rfl, ints_of_own h rfl⟩

theorem ints_new (xs : List Int) (W : World) (t : TypeId) : Ints (W.alloc (.cells (xs.map I).toArray t)) (W.heap.size + 1) (some ⟨W.heap.size, 0, none⟩) xs := fun _ => by
  refine ⟨_, 0, rfl, by omega, fun k hk => ?_⟩
  simp [go_sem, hk]


def xF (xl : List Int) : Nat → Int := fun k => xl.getD k 0
theorem xF_set {xl : List Int} {i : Nat} (h : i < xl.length) (v : Int) (k : Nat) : xF (xl.set i v) k = if k = i then v else xF xl k := by
  unfold xF
  by_cases e : k = i
  · subst e; simp [List.getD, h]
  · simp [List.getD, e, List.getElem?_set, Ne.symm e]

theorem box_made {W : World} {base g n : Nat} {e : TypeId} (h : W.ownsRow base e 1 (.slice (some ⟨g, 0, none⟩) n n) n (madeCells (I 0).cells (n * 1)).toList) : Box W g ((List.replicate n (0 : Int)).map I) := by
  have hl := h.lt g rfl
  refine ⟨hl.2, fun k hk => ?_⟩
  have hk' : k < n := by simpa using hk
  have c0 := h.cells (g := g) rfl k (I 0) (by simp [madeCells, Value.cells, hk', Nat.mod_one])
  rw [Addr.add_lit, Nat.zero_add] at c0
  refine ⟨by simpa using c0, ?_⟩
  obtain ⟨_, h2⟩ := h
  rcases h2 with ⟨h3, _⟩ | ⟨g', cap, cur, h3, _, h4, _⟩
  · cases h3
  · injection h3 with h5 h6 h7
    obtain rfl : g = g' := by simpa using h5
    simp [World.frozen?, h4]

theorem box_setI {W : World} {S : Nat} {xl : List Int} (h : Box W S (xl.map I)) (i : Nat) (v : Int) : Box (W.setCell ⟨S, i, none⟩ (I v)) S ((xl.set i v).map I) := by
  have := h.set i (I v)
  rwa [← List.map_set] at this

theorem ret_b {a b : Bool} (h : a = b) : Ending.returned (.bool a) = .returned (.bool b) := by rw [h]

theorem below_call {w a w' : World} (h : Below w.heap.size w a) (hB : Below a.heap.size a w') : Below w.heap.size w w' := h.trans (hB.mono h.size)
def inB (n lo hi : Int) : Bool := decide (lo ≤ n) && decide (n ≤ hi)
theorem inB_true {n lo hi : Int} : inB n lo hi = true ↔ lo ≤ n ∧ n ≤ hi := by simp [inB]
theorem inB_false {n lo hi : Int} : inB n lo hi = false ↔ ¬ (lo ≤ n ∧ n ≤ hi) := by rw [← inB_true]; simp
theorem ret_bool {a b : Bool} (h : a = true ↔ b = true) : Ending.returned (.bool a) = .returned (.bool b) := by rw [Bool.eq_iff_iff.2 h]
abbrev nilS : Value := .slice none 0 0
/-- A row of spots, four ints each, below block B. -/
def Fours (w : World) (B : Nat) (A : Option Addr) (xs : List (Int × Int × Int × Int)) : Prop :=
  0 < xs.length → ∃ b off, A = some ⟨b, off, none⟩ ∧ b < B ∧ ∀ k (h : k < xs.length), w.cell? ⟨b, off + k * 4, none⟩ = some (I xs[k].1) ∧ w.cell? ⟨b, off + k * 4 + 1, none⟩ = some (I xs[k].2.1) ∧ w.cell? ⟨b, off + k * 4 + 2, none⟩ = some (I xs[k].2.2.1) ∧ w.cell? ⟨b, off + k * 4 + 3, none⟩ = some (I xs[k].2.2.2)
section
variable {w w' : World} {B B' : Nat} {A : Option Addr} {xs : List (Int × Int × Int × Int)}
theorem Fours.keep (h : Fours w B A xs) (hk : ∀ p : Addr, p.block < B → w'.cell? p = w.cell? p) : Fours w' B A xs := fun h0 => by
  obtain ⟨b, off, hA, hb, hc⟩ := h h0
  exact ⟨b, off, hA, hb, fun k hk' => ⟨(hk _ hb).trans (hc k hk').1, (hk _ hb).trans (hc k hk').2.1, (hk _ hb).trans (hc k hk').2.2.1, (hk _ hb).trans (hc k hk').2.2.2⟩⟩
theorem Fours.more (h : Fours w B A xs) (hB : B ≤ B') : Fours w B' A xs := fun h0 => by
  obtain ⟨b, off, hA, hb, hc⟩ := h h0
  exact ⟨b, off, hA, by omega, hc⟩
theorem Fours.below (h : Fours w B A xs) (hb : Below B w w') : Fours w' B A xs := h.keep fun _ hp => hb.cell hp
end
end Go.Proofs.Ytfebhofihioaoaa
