/- A queue: a slice of one's own whose head is cut off, and that grows at its end. -/
import Derived.Test.YtomfnldlnoiloaaDoorRf
import Derived.ArgAppend
import Derived.OwnWalkIn
namespace Go.Proofs.YtomfnldlnoiloaaDoor
set_option linter.unusedVariables false
set_option linter.unusedSimpArgs false
open Go Go.RowKit

section
variable {P : Program} {w w' : World} {base : Nat} {e : TypeId} {size n : Nat} {v : Value} {xs : List Value}
/-- The elements of a slice that lies somewhere in a block of one's own. -/
structure QueueAt (w : World) (base : Nat) (e : TypeId) (size : Nat) (v : Value) (n : Nat) (xs : List Value) : Prop where
  len : xs.length = n * size
  at_ : ∃ ad cap, v = .slice (some ad) n cap ∧ n ≤ cap ∧ cap ≤ maxLen ∧ (0 < cap → ∃ g off cur, ad = ⟨g, off, none⟩ ∧ base ≤ g ∧ w.heap[g]? = some (.cells cur e (0, 0)) ∧ off + cap * size ≤ cur.size) ∧ ∀ j u, xs[j]? = some u → w.cell? (ad.add j) = some u
theorem addr_plain (g o j : Nat) : (⟨g, o, none⟩ : Addr).add j = ⟨g, o + j, none⟩ := by unfold Addr.add; split <;> simp_all
theorem QueueAt.of_own (h : w.ownsRow base e size v n xs) (hn : 0 < n) : QueueAt w base e size v n xs := by
  refine ⟨h.1, ?_⟩
  rcases h.2 with ⟨_, h0⟩ | ⟨g, cap, cur, rfl, hb, hg, hnc, hcm, hcs, ht⟩
  · omega
  · refine ⟨_, cap, rfl, hnc, hcm, fun _ => ⟨g, 0, cur, rfl, hb, hg, by omega⟩, fun j u hu => ?_⟩
    exact h.cells (g := g) rfl j u hu
theorem QueueAt.keep (h : QueueAt w base e size v n xs) (hk : ∀ g cur, v.ownBlock = some g → base ≤ g → w.heap[g]? = some (.cells cur e (0, 0)) → w'.heap[g]? = w.heap[g]?) (hs : 0 < size) : QueueAt w' base e size v n xs := by
  obtain ⟨hl, ad, cap, rfl, h1, h2, h3, h4⟩ := h
  refine ⟨hl, ad, cap, rfl, h1, h2, fun hc => ?_, fun j u hu => ?_⟩
  · obtain ⟨g, off, cur, rfl, hb, hg, hz⟩ := h3 hc
    exact ⟨g, off, cur, rfl, hb, (hk g cur rfl hb hg).trans hg, hz⟩
  · have hj : j < xs.length := (List.getElem?_eq_some_iff.1 hu).1
    have hc : 0 < cap := by
      rw [hl] at hj
      rcases Nat.eq_zero_or_pos n with h0 | h0
      · subst h0; omega
      · omega
    obtain ⟨g, off, cur, rfl, hb, hg, hz⟩ := h3 hc
    refine (World.cell?_of_block ?_).trans (h4 j u hu)
    rw [addr_plain]
    exact hk g cur rfl hb hg
/-- Its first element, and the rest. -/
theorem QueueAt.head (h : QueueAt w base e size v (n + 1) xs) : ∃ g off cap, v = .slice (some ⟨g, off, none⟩) (n + 1) cap ∧ n + 1 ≤ cap ∧ cap ≤ maxLen ∧ (∀ j u, xs[j]? = some u → w.cell? ⟨g, off + j, none⟩ = some u) := by
  obtain ⟨hl, ad, cap, rfl, h1, h2, h3, h4⟩ := h
  obtain ⟨g, off, cur, rfl, hb, hg, hz⟩ := h3 (by omega)
  exact ⟨g, off, cap, rfl, h1, h2, fun j u hu => by rw [← addr_plain]; exact h4 j u hu⟩
theorem QueueAt.own {g : Nat} (h : QueueAt w base e size v n xs) (hc : v.ownBlock = some g) (h0 : n ≠ 0) : base ≤ g ∧ ∃ cur, w.heap[g]? = some (.cells cur e (0, 0)) := by
  obtain ⟨hl, ad, cap, rfl, h1, h2, h3, h4⟩ := h
  obtain ⟨g', off, cur, rfl, hb, hg, hz⟩ := h3 (by omega)
  cases hc
  exact ⟨hb, cur, hg⟩
/-- Without its first element. -/
theorem QueueAt.tail (h : QueueAt w base e size v (n + 1) xs) : ∃ ad cap, v = .slice (some ad) (n + 1) cap ∧ n + 1 ≤ cap ∧ (∀ j u, xs[j]? = some u → w.cell? (ad.add j) = some u) ∧ QueueAt w base e size (sliced (some ad) 1 (n + 1) cap size) n (xs.drop size) := by
  obtain ⟨hl, ad, cap, rfl, h1, h2, h3, h4⟩ := h
  refine ⟨ad, cap, rfl, h1, h4, by simp [hl, Nat.add_mul], ?_⟩
  obtain ⟨g, off, cur, rfl, hb, hg, hz⟩ := h3 (by omega)
  unfold sliced
  by_cases hc : cap = 1
  · subst hc
    have hn : n = 0 := by omega
    subst hn
    refine ⟨⟨g, off, none⟩, 0, by simp, by omega, by omega, fun h => by omega, fun j u hu => ?_⟩
    have : xs.drop size = [] := by rw [List.drop_eq_nil_iff, hl]; omega
    rw [this] at hu
    cases hu
  · refine ⟨⟨g, off + 1 * size, none⟩, cap - 1, by simp [hc, addr_plain], by omega, by omega, fun _ => ⟨g, off + 1 * size, cur, rfl, hb, hg, ?_⟩, fun j u hu => ?_⟩
    · have : cap * size = (cap - 1) * size + size := by
        rw [← Nat.succ_mul]; congr 1; omega
      omega
    · rw [List.getElem?_drop] at hu
      have := h4 _ _ hu
      rw [addr_plain] at this ⊢
      rw [← this]
      congr 2
      omega
theorem grownBy_trans {a b c : World} {row : Option Nat} (h1 : a.grownBy b row) (h2 : b.grownBy c row) : a.grownBy c row :=
  ⟨h2.os.trans h1.os, h2.tape.trans h1.tape, h2.output.trans h1.output, Nat.le_trans h1.size h2.size, fun k hk hr => (h2.block k (Nat.lt_of_lt_of_le hk h1.size) hr).trans (h1.block k hk hr)⟩
theorem grownBy_setC (w : World) (g o : Nat) (v : Value) : w.grownBy (w.setCell ⟨g, o, none⟩ v) (some g) := ⟨rfl, rfl, rfl, (KeepsWalks.setCell w _ v).size, fun k _ hk => Below.heap_setCell w ⟨g, o, none⟩ v k (fun e => hk (by rw [e]))⟩
theorem setCells_cells {g : Nat} {e : TypeId} {fz : Nat × Nat} : ∀ (vs : List Value) (o : Nat) (w : World) (cur : Array Value), w.heap[g]? = some (.cells cur e fz) → (∃ cur', cur'.size = cur.size ∧ (w.setCells g o vs).heap[g]? = some (.cells cur' e fz)) ∧ w.grownBy (w.setCells g o vs) (some g)
  | [], o, w, cur, h => ⟨⟨cur, rfl, h⟩, ⟨rfl, rfl, rfl, Nat.le_refl _, fun _ _ _ => rfl⟩⟩
  | v :: vs, o, w, cur, h => by
    have h1 : (w.setCell ⟨g, o, none⟩ v).heap[g]? = some (.cells (cur.setIfInBounds o v) e fz) := by
      obtain ⟨hlt, hk⟩ := Array.getElem?_eq_some_iff.1 h
      show (w.heap.modify g _)[g]? = _
      rw [Array.getElem?_eq_getElem (by rw [Array.size_modify]; exact hlt), Array.getElem_modify_self, hk]
      rfl
    obtain ⟨⟨cur', h2, h3⟩, h4⟩ := setCells_cells vs (o + 1) (w.setCell ⟨g, o, none⟩ v) _ h1
    refine ⟨⟨cur', by simpa using h2, h3⟩, ?_⟩
    exact grownBy_trans (grownBy_setC w g o v) h4
theorem cell_isSome {g k : Nat} {cur : Array Value} {fz : Nat × Nat} (h : w.heap[g]? = some (.cells cur e fz)) (hk : k < cur.size) : (w.cell? ⟨g, k, none⟩).isSome = true := by
  simp [World.cell?, h, hk]
theorem cell_free {g k : Nat} {cur : Array Value} (h : w.heap[g]? = some (.cells cur e (0, 0))) : w.frozen? ⟨g, k, none⟩ = false := by
  simp [World.frozen?, h]
/-- Some more at its end. -/
theorem QueueAt.append (h : QueueAt w base e size v n xs) (t ty : TypeId) (i : TypeInfo) (z : Value) (bytes : Nat) (ht : P.underlying t = some (.slice e)) (hi : P.info? e = some i) (hz : i.zero = some z)
    (hsize : i.size = size) (hby : i.bytes = bytes) (hzs : z.cells.size = size) (hsz : 0 < size)
    (a : Addr) (m c : Nat) (news : List Value) (hl : news.length = m * size) (hnews : ∀ j u, news[j]? = some u → w.cell? (a.add j) = some u) (h1 : ∀ u ∈ news, u.oneCell' = true)
    (hm : 0 < m) (h63 : n + m ≤ maxLen) (hbytes : (n + m) * bytes ≤ 140737488355328) (hbase : base ≤ w.heap.size) :
    ∃ v' w' row, (Builtin.append_ #[t, t] ty #[v, .slice (some a) m c]).run P w = .ok v' w' ∧ QueueAt w' base e size v' (n + m) (xs ++ news) ∧ w.grownBy w' row ∧ ∀ r, row = some r → base ≤ r ∧ ∃ cur, w.heap[r]? = some (.cells cur e (0, 0)) := by
  obtain ⟨hl0, ad, cap, rfl, k1, k2, k3, k4⟩ := h
  by_cases hr : n + m ≤ cap
  · obtain ⟨g, off, cur, rfl, hb, hg, hz'⟩ := k3 (by omega)
    have hmul : (n + m) * size ≤ cap * size := Nat.mul_le_mul_right _ hr
    rw [Nat.add_mul] at hmul
    have hrun := run_append_room_cells (P := P) w t ty e i ht hi g off n cap a m c news (by rw [hsize]; exact hl) hnews h1 hr
      (fun j hj => cell_isSome hg (by rw [hsize]; omega)) (fun j hj => cell_free hg)
    rw [hsize] at hrun
    obtain ⟨⟨cur', hs', hg'⟩, hgr⟩ := setCells_cells news (off + n * size) w cur hg
    refine ⟨_, _, some g, hrun, ⟨by simp [hl0, hl, Nat.add_mul], ⟨g, off, none⟩, cap, rfl, hr, k2, fun _ => ⟨g, off, cur', rfl, hb, hg', by omega⟩, fun j u hu => ?_⟩, hgr, fun r e => by cases e; exact ⟨hb, cur, hg⟩⟩
    rw [addr_plain]
    by_cases hj : j < xs.length
    · rw [List.getElem?_append_left hj] at hu
      have := k4 j u hu
      rw [addr_plain] at this
      rw [World.cell?_setCells_out g news _ w _ (fun _ _ => .inl (by simp; omega))]
      exact this
    · rw [List.getElem?_append_right (by omega)] at hu
      obtain ⟨hj2, hu2⟩ := List.getElem?_eq_some_iff.1 hu
      have := World.cell?_setCells_in g news (off + n * size) w (fun j hj => cell_isSome hg (by omega)) (j - xs.length) hj2
      rw [hu2] at this
      rw [← this]
      congr 2
      omega
  · obtain ⟨v', w', hrun, hown, hgr⟩ := run_append_arg_grows (P := P) w t ty e i z size bytes ht hi hz hsize hby hzs hsz ad n cap xs hl0 k4 a m c news hl hnews (by omega) h63 hbytes
    refine ⟨v', w', none, hrun, ?_, hgr, fun r e => by cases e⟩
    have hq := QueueAt.of_own hown (by omega)
    obtain ⟨q1, q2, q3, q4, q5, q6, q7, q8⟩ := hq
    exact ⟨q1, q2, q3, q4, q5, q6, fun hc => by
      obtain ⟨g, off, cur, e1, e2, e3⟩ := q7 hc
      exact ⟨g, off, cur, e1, by omega, e3⟩, q8⟩
end
section
variable {F : Fence} {nF : Nat} {P : Program} (w : World)
/-- At the operation. -/
theorem wpListIn_append_queue {ops : Array Oper} {rest : List Oper} {o : Oper} {a : Act} {Q : Exit → Act → World → Prop} (hg : o.guard = none) (s x : Operand) (t : TypeId) (hop : o.op = Op.call { callee := Callee.builtin Builtin.append, args := #[s, x], argTypes := #[t, t] })
    (base : Nat) (e : TypeId) (i : TypeInfo) (z : Value) (size bytes : Nat) (h1 : P.underlying t = some (.slice e)) (h2 : P.info? e = some i) (h3 : i.zero = some z) (h4 : i.size = size) (h5 : i.bytes = bytes) (h6 : z.cells.size = size) (h7 : 0 < size)
    (v : Value) (k : Nat) (xs : List Value) (hs : a.eval s = v) (hown : QueueAt w base e size v k xs) (ad : Addr) (m c : Nat) (news : List Value) (hx : a.eval x = .slice (some ad) m c) (hn : news.length = m * size)
    (hc : ∀ j u, news[j]? = some u → w.cell? (ad.add j) = some u) (h1c : ∀ u ∈ news, u.oneCell' = true) (hm : 0 < m) (b1 : k + m ≤ maxLen) (b2 : (k + m) * bytes ≤ 140737488355328) (b3 : base ≤ w.heap.size)
    (hK : ∀ v' w' row, QueueAt w' base e size v' (k + m) (xs ++ news) → w.grownBy w' row → (∀ r, row = some r → base ≤ r ∧ ∃ cur, w.heap[r]? = some (.cells cur e (0, 0))) → wpListIn F nF P ops Q rest (a.put o.dst v') w') :
    wpListIn F nF P ops Q (o :: rest) a w := by
  refine wpListIn_plain hg fun K hK' => ?_
  obtain ⟨v', w', row, hrun, r1, r2, r3⟩ := hown.append (P := P) t o.type i z bytes h1 h2 h3 h4 h5 h6 h7 ad m c news hn hc h1c hm b1 b2 b3
  unfold Oper.wpIn
  refine ⟨?_, ?_⟩
  · simp [Oper.about, hop, resolve, Target.leads, Sem.run_pure]
  · rw [Oper.semAt_plain F _ _ (by rw [hop]; intro c hc'; cases hc')]
    simp [execOp, hop, resolve, invoke, builtin, hs, hx, hrun, Result.andThen]
    exact hK' _ _ (hK v' w' row r1 r2 r3)
end
end Go.Proofs.YtomfnldlnoiloaaDoor
