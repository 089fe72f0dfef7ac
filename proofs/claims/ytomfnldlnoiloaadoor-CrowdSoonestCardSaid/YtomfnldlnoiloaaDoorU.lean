/- Words for memory: a slice that reads as a list, a block that is known whole. -/
import Derived.Test.YtomfnldlnoiloaaDoorRows
import Derived.WalkKit
import Derived.WalkSpells
import Derived.WalkLawsBesides
import Derived.BigQuiet
import Derived.Deep.QuietTactic
import Derived.Deep.AppendLies
import Derived.Deep.Draws
import Derived.Laws.OwnMore
import Derived.Lib.Hide
import Derived.Lib.MinMax
import Derived.IntWalk
import Derived.Test.YtomfnldlnoiloaaDoorPa
import Derived.Maps.AppendAt
import Derived.Deep.DeepCutAuto
import Derived.Deep.Upon
namespace Go.Proofs.YtomfnldlnoiloaaDoor
set_option linter.unusedVariables false
set_option linter.unusedSimpArgs false
open Go.RowKit

theorem block_of_add (a : Addr) (n : Nat) : (a.add n).block = a.block := by unfold Addr.add; split <;> rfl
theorem add_of_add (a : Addr) (i j : Nat) : (a.add i).add j = a.add (i + j) := by
  unfold Addr.add
  by_cases hi : i = 0 <;> by_cases hj : j = 0 <;> simp [hi, hj, Nat.add_assoc]

/-- The slice value '.slice A n c' holds the cells xs (n elements of size cells each), below block B. -/
def Reads (w : World) (B size : Nat) (A : Option Addr) (n : Nat) (xs : List Value) : Prop :=
  xs.length = n * size ∧ (0 < n → ∃ ad, A = some ad ∧ ad.block < B ∧ ∀ j u, xs[j]? = some u → w.cell? (ad.add j) = some u)

section
variable {w w' : World} {B B' size n : Nat} {A : Option Addr} {xs : List Value}
theorem Reads.none_ : Reads w B size A 0 [] := ⟨by simp, fun h => absurd h (by omega)⟩
theorem Reads.at_ {k : Nat} (h : Reads w B 1 A n xs) (hk : k < n) : ∃ ad u, A = some ad ∧ ad.block < B ∧ xs[k]? = some u ∧ w.cell? (ad.add k) = some u := by
  obtain ⟨ad, e, hb, hc⟩ := h.2 (by omega)
  have hl : k < xs.length := by have := h.1; omega
  exact ⟨ad, xs[k], e, hb, List.getElem?_eq_getElem hl, hc k _ (List.getElem?_eq_getElem hl)⟩
theorem Reads.keep (h : Reads w B size A n xs) (hk : ∀ p : Addr, p.block < B → w'.cell? p = w.cell? p) : Reads w' B size A n xs :=
  ⟨h.1, fun hn => by
    obtain ⟨ad, e, hb, hc⟩ := h.2 hn
    exact ⟨ad, e, hb, fun j u hu => (hk _ (by rw [block_of_add]; exact hb)).trans (hc j u hu)⟩⟩
theorem Reads.more (h : Reads w B size A n xs) (hB : B ≤ B') : Reads w B' size A n xs :=
  ⟨h.1, fun hn => by
    obtain ⟨ad, e, hb, hc⟩ := h.2 hn
    exact ⟨ad, e, by omega, hc⟩⟩
theorem Reads.below (h : Reads w B size A n xs) (hb : Below B w w') : Reads w' B size A n xs := h.keep fun _ hp => hb.cell hp
theorem Reads.drew (h : Reads w B size A n xs) : Reads w.drew B size A n xs := h
theorem Reads.drewN (h : Reads w B size A n xs) (k : Nat) : Reads (w.drewN k) B size A n xs := h
theorem Reads.alloc (h : Reads w B size A n xs) (hB : B ≤ w.heap.size) (o : Obj) : Reads (w.alloc o) B size A n xs := h.keep fun p hp => World.cell?_alloc_lt w o p (by omega)
theorem Reads.setCell (h : Reads w B size A n xs) {p : Addr} (hB : B ≤ p.block) (u : Value) : Reads (w.setCell p u) B size A n xs :=
  h.keep fun q hq => World.cell?_setCell_other w p q u (fun e => by subst e; omega)
theorem Reads.grown (h : Reads w B size A n xs) {row : Option Nat} (hg : w.grownBy w' row) (hB : B ≤ w.heap.size) (hr : ∀ g, row = some g → B ≤ g) : Reads w' B size A n xs :=
  h.keep fun p hp => World.cell?_of_block (hg.block p.block (by omega) (fun e => by have := hr _ e.symm; omega))
theorem Reads.of_own {base : Nat} {e : TypeId} {c : Nat} (h : w.ownsRow base e size (.slice A n c) n xs) : Reads w w.heap.size size A n xs := by
  refine ⟨h.1, fun hn => ?_⟩
  obtain ⟨g, cap, hv, _, hlt⟩ := h.form hn
  have hA : A = some ⟨g, 0, none⟩ := by injection hv
  subst hA
  exact ⟨_, rfl, hlt, h.cells (g := g) rfl⟩
end

theorem bcell {W w1 : World} (hb : Below W.heap.size W w1) : (∀ b o, b < W.heap.size → w1.cell? ⟨b, o, none⟩ = W.cell? ⟨b, o, none⟩) ∧ (∀ b o, b < W.heap.size → w1.frozen? ⟨b, o, none⟩ = W.frozen? ⟨b, o, none⟩) :=
  ⟨fun b o h => hb.cell (p := ⟨b, o, none⟩) h, fun b o h => hb.frozen (p := ⟨b, o, none⟩) h⟩
theorem below1 (w : World) (o : Obj) : Below w.heap.size w (w.alloc o) := (Below.refl _ _).alloc (Nat.le_refl _) _
theorem ret_int {k : IntKind} {a b : Int} (h : a = b) : Ending.returned (.int k a) = .returned (.int k b) := by rw [h]
theorem below_drewN {B : Nat} {a w : World} (h : Below B a w) (n : Nat) : Below B a (w.drewN n) := ⟨h.os, h.tape, h.output, h.size, h.block⟩

/-- From a to w no block below N has turned but those of S. -/
structure Frm (N : Nat) (S : Nat → Prop) (a w : World) : Prop where
  os : w.os = a.os
  tape : w.tape = a.tape
  output : w.output = a.output
  size : a.heap.size ≤ w.heap.size
  block : ∀ k, k < N → ¬ S k → w.heap[k]? = a.heap[k]?
section
variable {N : Nat} {S : Nat → Prop} {a b w : World}
theorem Frm.refl (N : Nat) (S : Nat → Prop) (w : World) : Frm N S w w := ⟨rfl, rfl, rfl, Nat.le_refl _, fun _ _ _ => rfl⟩
theorem Frm.trans (h : Frm N S a b) (k : Frm N S b w) : Frm N S a w :=
  ⟨k.os.trans h.os, k.tape.trans h.tape, k.output.trans h.output, Nat.le_trans h.size k.size, fun i hi hs => (k.block i hi hs).trans (h.block i hi hs)⟩
theorem Frm.of_below {B : Nat} (h : Below B a w) (hB : N ≤ B) : Frm N S a w := ⟨h.os, h.tape, h.output, h.size, fun i hi _ => h.block i (by omega)⟩
theorem Frm.below {B : Nat} (h : Frm N S a w) (hB : B ≤ N) (hs : ∀ k, k < B → ¬ S k) : Below B a w := ⟨h.os, h.tape, h.output, h.size, fun i hi => h.block i (by omega) (hs i hi)⟩
theorem Frm.mono {N' : Nat} {S' : Nat → Prop} (h : Frm N S a w) (hN : N' ≤ N) (hs : ∀ k, k < N' → S k → S' k) : Frm N' S' a w := ⟨h.os, h.tape, h.output, h.size, fun i hi hn => h.block i (by omega) (fun hk => hn (hs i hi hk))⟩
theorem Frm.then_ {B : Nat} (h : Frm N S a b) (k : Below B b w) (hB : N ≤ B) : Frm N S a w := h.trans (.of_below k hB)
theorem Frm.drew (h : Frm N S a w) : Frm N S a w.drew := ⟨h.os, h.tape, h.output, h.size, h.block⟩
theorem Frm.drewN (h : Frm N S a w) (n : Nat) : Frm N S a (w.drewN n) := ⟨h.os, h.tape, h.output, h.size, h.block⟩
theorem Frm.alloc (h : Frm N S a w) (hN : N ≤ w.heap.size) (o : Obj) : Frm N S a (w.alloc o) := h.then_ ((Below.refl N w).alloc hN o) (Nat.le_refl _)
theorem Frm.setCell (h : Frm N S a w) {p : Addr} (hp : N ≤ p.block ∨ S p.block) (u : Value) : Frm N S a (w.setCell p u) :=
  h.trans ⟨rfl, rfl, rfl, by simp [World.setCell], fun k hk hs => Below.heap_setCell _ _ _ _ (by
    rintro rfl
    rcases hp with hp | hp
    · omega
    · exact hs hp)⟩
theorem Frm.grown {row : Option Nat} (h : Frm N S a b) (hg : b.grownBy w row) (hN : N ≤ b.heap.size) (hr : ∀ k, row = some k → N ≤ k ∨ S k) : Frm N S a w :=
  h.trans ⟨hg.os, hg.tape, hg.output, hg.size, fun k hk hs => hg.block k (by omega) (fun e => by
    rcases hr k e.symm with h | h
    · omega
    · exact hs h)⟩
theorem Frm.cell (h : Frm N S a w) {b o : Nat} (hb : b < N) (hs : ¬ S b) : w.cell? ⟨b, o, none⟩ = a.cell? ⟨b, o, none⟩ := World.cell?_of_block (h.block b hb hs)
theorem Frm.frozen (h : Frm N S a w) {b o : Nat} (hb : b < N) (hs : ¬ S b) : w.frozen? ⟨b, o, none⟩ = a.frozen? ⟨b, o, none⟩ := World.frozen?_of_block (h.block b hb hs)
end

abbrev I (n : Int) : Value := .int .i64 n
/-- A slice of ints at A below block B. -/
def Ints (w : World) (B : Nat) (A : Option Addr) (xs : List Int) : Prop :=
  0 < xs.length → ∃ b off, A = some ⟨b, off, none⟩ ∧ b < B ∧ ∀ k (h : k < xs.length), w.cell? ⟨b, off + k, none⟩ = some (I xs[k])
section
variable {w w' : World} {B B' : Nat} {A : Option Addr} {xs : List Int}
theorem Ints.keep (h : Ints w B A xs) (hk : ∀ p : Addr, p.block < B → w'.cell? p = w.cell? p) : Ints w' B A xs := fun h0 => by
  obtain ⟨b, off, hA, hb, hc⟩ := h h0
  exact ⟨b, off, hA, hb, fun k hk' => (hk _ hb).trans (hc k hk')⟩
theorem Ints.more (h : Ints w B A xs) (hB : B ≤ B') : Ints w B' A xs := fun h0 => by
  obtain ⟨b, off, hA, hb, hc⟩ := h h0
  exact ⟨b, off, hA, by omega, hc⟩
theorem Ints.below (h : Ints w B A xs) (hb : Below B w w') : Ints w' B A xs := h.keep fun _ hp => hb.cell hp
end
end Go.Proofs.YtomfnldlnoiloaaDoor
/- Words for memory: rows and blocks of one's own, appends, rows of spots. -/
namespace Go.Proofs.YtomfnldlnoiloaaDoor
set_option linter.unusedVariables false
set_option linter.unusedSimpArgs false
open Go Go.RowKit

theorem own_form {w : World} {base n : Nat} {e : TypeId} {v : Value} {xs : List Value} (h : w.ownsRow base e 1 v n xs) :
    (v = .slice none 0 0 ∧ n = 0) ∨ ∃ g cap, v = .slice (some ⟨g, 0, none⟩) n cap ∧ base ≤ g ∧ g < w.heap.size ∧ n ≤ cap ∧ cap ≤ 9223372036854775807 := by
  rcases h.2 with h1 | ⟨g, cap, cur, rfl, hb, hc, h3, h4, _⟩
  · exact .inl ⟨h1.1, h1.2⟩
  · exact .inr ⟨g, cap, rfl, (h.lt g rfl).1, (h.lt g rfl).2, h3, by simpa [maxLen] using h4⟩

theorem getD_get {zs : List Int} {j : Nat} (h : j < zs.length) : zs.getD j 0 = zs[j] := by simp [List.getD, h]
theorem grown_own {w w' : World} {base n : Nat} {e : TypeId} {v : Value} {xs : List Value} {size : Nat} (h : w.ownsRow base e size v n xs) (hB : Below w.heap.size w w') : w'.ownsRow base e size v n xs :=
  h.kept (row := none) ⟨hB.os, hB.tape, hB.output, hB.size, fun k hk _ => hB.block k hk⟩ (by cases h0 : v.ownBlock <;> simp)

/-- Block b holds just vs, and may be written. -/
def Box (W : World) (b : Nat) (vs : List Value) : Prop := b < W.heap.size ∧ ∀ k (h : k < vs.length), W.cell? ⟨b, k, none⟩ = some vs[k] ∧ W.frozen? ⟨b, k, none⟩ = false
section
variable {W W' : World} {b : Nat} {vs : List Value}
theorem Box.keep (h : Box W b vs) (hz : W.heap.size ≤ W'.heap.size) (hc : ∀ o, W'.cell? ⟨b, o, none⟩ = W.cell? ⟨b, o, none⟩) (hf : ∀ o, W'.frozen? ⟨b, o, none⟩ = W.frozen? ⟨b, o, none⟩) : Box W' b vs :=
  ⟨Nat.lt_of_lt_of_le h.1 hz, fun k hk => ⟨(hc k).trans (h.2 k hk).1, (hf k).trans (h.2 k hk).2⟩⟩
theorem Box.below {B : Nat} (h : Box W b vs) (hB : Below B W W') (hb : b < B) : Box W' b vs := h.keep hB.size (fun o => hB.cell (p := ⟨b, o, none⟩) hb) (fun o => hB.frozen (p := ⟨b, o, none⟩) hb)
theorem Box.call (h : Box W b vs) (hB : Below W.heap.size W W') : Box W' b vs := h.below hB h.1
theorem Box.grown {row : Option Nat} (h : Box W b vs) (hg : W.grownBy W' row) (hr : row ≠ some b) : Box W' b vs :=
  have hb := hg.block b h.1 (fun e => hr e.symm)
  h.keep hg.size (fun o => World.cell?_of_block hb) (fun o => World.frozen?_of_block hb)
theorem Box.drew (h : Box W b vs) : Box W.drew b vs := h
theorem Box.drewN (h : Box W b vs) (n : Nat) : Box (W.drewN n) b vs := h
theorem Box.alloc (h : Box W b vs) (o : Obj) : Box (W.alloc o) b vs := h.call ((Below.refl _ _).alloc (Nat.le_refl _) o)
theorem Box.far (h : Box W b vs) {p : Addr} (hp : p.block ≠ b) (u : Value) : Box (W.setCell p u) b vs :=
  have hb := Below.heap_setCell W p u b (Ne.symm hp)
  h.keep (by simp) (fun o => World.cell?_of_block hb) (fun o => World.frozen?_of_block hb)
theorem Box.set (h : Box W b vs) (j : Nat) (u : Value) : Box (W.setCell ⟨b, j, none⟩ u) b (vs.set j u) := by
  refine ⟨by simpa using h.1, fun k hk => ⟨?_, by simpa [go_sem] using (h.2 k (by simpa using hk)).2⟩⟩
  have hk' : k < vs.length := by simpa using hk
  have hc := (h.2 k hk').1
  rw [List.getElem_set]
  by_cases e : j = k
  · subst e
    simp [go_sem, hc]
  · rw [if_neg e, World.cell?_setCell_other _ _ _ _ (by simp; try omega)]
    exact hc
theorem Box.new (W : World) (vs : List Value) (t : TypeId) : Box (W.alloc (.cells vs.toArray t)) W.heap.size vs := by
  refine ⟨by simp, fun k hk => ⟨?_, by simp [go_sem]⟩⟩
  simp [go_sem]
theorem Box.at_ (h : Box W b vs) (k : Nat) (v : Value) (hv : vs[k]? = some v) : W.cell? ⟨b, k, none⟩ = some v ∧ W.frozen? ⟨b, k, none⟩ = false := by
  obtain ⟨hk, rfl⟩ := List.getElem?_eq_some_iff.1 hv
  exact h.2 k hk
theorem grown_below {row : Option Nat} (hg : W.grownBy W' row) {B : Nat} (hB : B ≤ W.heap.size) (hr : ∀ k, row = some k → B ≤ k) : Below B W W' := (Below.refl B W).grown hg hB hr
end
theorem ints_of_own {W : World} {base n c : Nat} {A : Option Addr} {xs : List Int} {e : TypeId} (h : W.ownsRow base e 1 (.slice A n c) n (xs.map I)) (hn : n = xs.length) : Ints W W.heap.size A xs := fun h0 => by
  rcases own_form h with ⟨h1, h2⟩ | ⟨g, cap, h1, h2, h3, _⟩
  · omega
  · injection h1 with hA _ _
    subst hA
    refine ⟨g, 0, rfl, h3, fun k hk => ?_⟩
    have := h.cells (g := g) rfl k (I xs[k]) (by simp [hk])
    rw [← this]
    congr 1
    unfold Addr.add
    split <;> simp_all

section
variable {F : Fence} {n : Nat} {P : Program} {Q : Exit → Act → World → Prop}
theorem opIn_append_own (hro : F.round = none) (w : World) {o : Oper} {a : Act} {K : Act → World → Prop} (s x : Operand) (t : TypeId)
    (ho : o.op = .call { callee := .builtin .append, args := #[s, x], argTypes := #[t, t] })
    (base : Nat) (e : TypeId) (i : TypeInfo) (z : Value) (size bytes : Nat) (ht : P.underlying t = some (.slice e)) (hi : P.info? e = some i) (hz : i.zero = some z)
    (hsize : i.size = size) (hby : i.bytes = bytes) (hzs : z.cells.size = size) (hsz : 0 < size)
    (v : Value) (k : Nat) (xs : List Value) (hs : a.eval s = v) (hown : w.ownsRow base e size v k xs)
    (ad : Addr) (m c : Nat) (news : List Value) (hx : a.eval x = .slice (some ad) m c) (hl : news.length = m * size) (hnews : ∀ j u, news[j]? = some u → w.cell? (ad.add j) = some u) (h1 : ∀ u ∈ news, u.oneCell' = true)
    (h63 : k + m ≤ maxLen) (hbytes : (k + m) * bytes ≤ 140737488355328) (hbase : base ≤ w.heap.size)
    (h : ∀ v' w', w'.ownsRow base e size v' (k + m) (xs ++ news) → w.grownBy w' v.ownBlock → (v' = .slice none 0 0 ↔ v = .slice none 0 0 ∧ m = 0) → K (a.put o.dst v') w') : o.wpIn F n P a w K Q := by
  obtain ⟨v', w', hr, h2, h3, h4⟩ := run_append_own (P := P) w base t o.type e i z size bytes ht hi hz hsize hby hzs hsz v k xs hown ad m c news hl hnews h1 h63 hbytes hbase
  unfold Oper.wpIn
  refine ⟨?_, ?_⟩
  · simp [Oper.about, ho, resolve, Target.leads, Sem.run_pure]
  · rw [hro, Oper.semAt_none]
    simp only [execOp, ho, resolve, invoke, builtin, Sem.run_bind, Sem.run_pure, Result.andThen_ok, List.map_toArray, List.map_cons, List.map_nil, hs, hx, hr]
    exact h v' w' h2 h3 h4
end
section
variable {P : Program}
theorem run_append_any (w : World) (base : Nat) (t ty e : TypeId) (i : TypeInfo) (z : Value) (size bytes : Nat) (ht : P.underlying t = some (.slice e)) (hi : P.info? e = some i) (hz : i.zero = some z)
    (hsize : i.size = size) (hby : i.bytes = bytes) (hzs : z.cells.size = size) (hsz : 0 < size)
    (v : Value) (k : Nat) (xs : List Value) (hown : w.ownsRow base e size v k xs)
    (A : Option Addr) (m c : Nat) (news : List Value) (hl : news.length = m * size) (hnews : 0 < m → ∃ ad, A = some ad ∧ ∀ j u, news[j]? = some u → w.cell? (ad.add j) = some u) (h1 : ∀ u ∈ news, u.oneCell' = true)
    (h63 : k + m ≤ maxLen) (hbytes : (k + m) * bytes ≤ 140737488355328) (hbase : base ≤ w.heap.size) :
    ∃ v' w', (Builtin.append_ #[t, t] ty #[v, .slice A m c]).run P w = .ok v' w' ∧ w'.ownsRow base e size v' (k + m) (xs ++ news) ∧ w.grownBy w' v.ownBlock := by
  rcases Nat.eq_zero_or_pos m with h0 | h0
  · subst h0
    obtain rfl : news = [] := List.eq_nil_of_length_eq_zero (by omega)
    have hsrc : Src P i.size t (.slice A 0 c) 0 [] w := by
      cases A with
      | none => exact Src.ofNil w ht c
      | some ad => exact Src.ofSlice w ht ad 0 c [] (by simp) (fun j u h => by simp at h) (fun u h => by simp at h)
    obtain ⟨b, m, hv, hle⟩ : ∃ b m, v = .slice b k m ∧ k ≤ m := by
      rcases hown.2 with ⟨h1, h2⟩ | ⟨g, cap, cur, h1, _, _, h4, _⟩
      · exact ⟨none, 0, by rw [h1, h2], by omega⟩
      · exact ⟨_, _, h1, h4⟩
    have hr := run_append_nothing (P := P) w t t ty e i ht hi b k m hle _ hsrc
    rw [← hv] at hr
    exact ⟨v, w, hr, by simpa using hown, ⟨rfl, rfl, rfl, Nat.le_refl _, fun _ _ _ => rfl⟩⟩
  · obtain ⟨ad, rfl, hc⟩ := hnews h0
    obtain ⟨v', w', hr, h2, h3, h4⟩ := run_append_own (P := P) w base t ty e i z size bytes ht hi hz hsize hby hzs hsz v k xs hown ad m c news hl hc h1 h63 hbytes hbase
    exact ⟨v', w', hr, h2, h3⟩
theorem wpList_append_any (w : World) {ops : Array Oper} {rest : List Oper} {o : Oper} {a : Act} {Q : Exit → Act → World → Prop} (hgd : o.guard = none) (s x : Operand) (t : TypeId)
    (ho : o.op = .call { callee := .builtin .append, args := #[s, x], argTypes := #[t, t] })
    (base : Nat) (e : TypeId) (i : TypeInfo) (z : Value) (size bytes : Nat) (ht : P.underlying t = some (.slice e)) (hi : P.info? e = some i) (hz : i.zero = some z)
    (hsize : i.size = size) (hby : i.bytes = bytes) (hzs : z.cells.size = size) (hsz : 0 < size)
    (v : Value) (k : Nat) (xs : List Value) (hs : a.eval s = v) (hown : w.ownsRow base e size v k xs)
    (A : Option Addr) (m c : Nat) (news : List Value) (hx : a.eval x = .slice A m c) (hl : news.length = m * size) (hnews : 0 < m → ∃ ad, A = some ad ∧ ∀ j u, news[j]? = some u → w.cell? (ad.add j) = some u) (h1 : ∀ u ∈ news, u.oneCell' = true)
    (h63 : k + m ≤ maxLen) (hbytes : (k + m) * bytes ≤ 140737488355328) (hbase : base ≤ w.heap.size)
    (h : ∀ v' w', w'.ownsRow base e size v' (k + m) (xs ++ news) → w.grownBy w' v.ownBlock → wpList P ops Q rest (a.put o.dst v') w') : wpList P ops Q (o :: rest) a w :=
  wpList_plain hgd fun _ hK => by
    obtain ⟨v', w', hr, h2, h3⟩ := run_append_any (P := P) w base t o.type e i z size bytes ht hi hz hsize hby hzs hsz v k xs hown A m c news hl hnews h1 h63 hbytes hbase
    unfold Oper.wp execOp
    simp only [ho, resolve, invoke, builtin, Sem.run_bind, Sem.run_pure, Result.andThen_ok, List.map_toArray, List.map_cons, List.map_nil, hs, hx, hr]
    exact hK _ _ (h v' w' h2 h3)
end

section
variable {F : Fence} {n : Nat} {P : Program} {Q : Exit → Act → World → Prop}
theorem opIn_append_at (hro : F.round = none) (w : World) {o : Oper} {a : Act} {K : Act → World → Prop} (s x : Operand) (t : TypeId)
    (ho : o.op = .call { callee := .builtin .append, args := #[s, x], argTypes := #[t, t] })
    (base : Nat) (e : TypeId) (i : TypeInfo) (z : Value) (size bytes : Nat) (ht : P.underlying t = some (.slice e)) (hi : P.info? e = some i) (hz : i.zero = some z)
    (hsize : i.size = size) (hby : i.bytes = bytes) (hzs : z.cells.size = size) (hsz : 0 < size)
    (v : Value) (k : Nat) (xs : List Value) (hs : a.eval s = v) (hown : w.ownsRow base e size v k xs)
    (ad : Addr) (m c : Nat) (news : List Value) (hx : a.eval x = .slice (some ad) m c) (hl : news.length = m * size) (hnews : ∀ j u, news[j]? = some u → w.cell? (ad.add j) = some u) (h1 : ∀ u ∈ news, u.oneCell' = true)
    (h63 : k + m ≤ maxLen) (hbytes : (k + m) * bytes ≤ 140737488355328) (hbase : base ≤ w.heap.size)
    (h : ∀ v' w', w'.ownsRow base e size v' (k + m) (xs ++ news) → w.grownBy w' v.ownBlock → (v'.ownBlock = v.ownBlock ∨ v'.ownBlock = some w.heap.size) → K (a.put o.dst v') w') : o.wpIn F n P a w K Q := by
  obtain ⟨v', w', hr, h2, h3, _, h4⟩ := run_append_own_at (P := P) w base t o.type e i z size bytes ht hi hz hsize hby hzs hsz v k xs hown ad m c news hl hnews h1 h63 hbytes hbase
  unfold Oper.wpIn
  refine ⟨?_, ?_⟩
  · simp [Oper.about, ho, resolve, Target.leads, Sem.run_pure]
  · rw [hro, Oper.semAt_none]
    simp only [execOp, ho, resolve, invoke, builtin, Sem.run_bind, Sem.run_pure, Result.andThen_ok, List.map_toArray, List.map_cons, List.map_nil, hs, hx, hr]
    exact h v' w' h2 h3 h4
theorem opIn_append_any (hro : F.round = none) (w : World) {o : Oper} {a : Act} {K : Act → World → Prop} (s x : Operand) (t : TypeId)
    (ho : o.op = .call { callee := .builtin .append, args := #[s, x], argTypes := #[t, t] })
    (base : Nat) (e : TypeId) (i : TypeInfo) (z : Value) (size bytes : Nat) (ht : P.underlying t = some (.slice e)) (hi : P.info? e = some i) (hz : i.zero = some z)
    (hsize : i.size = size) (hby : i.bytes = bytes) (hzs : z.cells.size = size) (hsz : 0 < size)
    (v : Value) (k : Nat) (xs : List Value) (hs : a.eval s = v) (hown : w.ownsRow base e size v k xs)
    (A : Option Addr) (m c : Nat) (news : List Value) (hx : a.eval x = .slice A m c) (hl : news.length = m * size) (hnews : 0 < m → ∃ ad, A = some ad ∧ ∀ j u, news[j]? = some u → w.cell? (ad.add j) = some u) (h1 : ∀ u ∈ news, u.oneCell' = true)
    (h63 : k + m ≤ maxLen) (hbytes : (k + m) * bytes ≤ 140737488355328) (hbase : base ≤ w.heap.size)
    (h : ∀ v' w', w'.ownsRow base e size v' (k + m) (xs ++ news) → w.grownBy w' v.ownBlock → K (a.put o.dst v') w') : o.wpIn F n P a w K Q := by
  obtain ⟨v', w', hr, h2, h3⟩ := run_append_any (P := P) w base t o.type e i z size bytes ht hi hz hsize hby hzs hsz v k xs hown A m c news hl hnews h1 h63 hbytes hbase
  unfold Oper.wpIn
  refine ⟨?_, ?_⟩
  · simp [Oper.about, ho, resolve, Target.leads, Sem.run_pure]
  · rw [hro, Oper.semAt_none]
    simp only [execOp, ho, resolve, invoke, builtin, Sem.run_bind, Sem.run_pure, Result.andThen_ok, List.map_toArray, List.map_cons, List.map_nil, hs, hx, hr]
    exact h v' w' h2 h3
theorem opIn_make_full (hro : F.round = none) (w : World) {o : Oper} {a : Act} {K : Act → World → Prop} (l c : Operand) (t : TypeId) (hop : o.op = Op.makeSlice t l c)
    (base : Nat) (e : TypeId) (i : TypeInfo) (z : Value) (size : Nat) (h1 : P.underlying t = some (.slice e)) (h2 : P.info? e = some i) (h3 : i.zero = some z) (h4 : i.size = size)
    (kl kc : IntKind) (m : Nat) (hl : a.eval l = .int kl m) (hc : a.eval c = .int kc m) (b2 : i.bytes * m ≤ 281474976710656) (b3 : m ≤ maxLen) (b4 : base ≤ w.heap.size)
    (h : ∀ w', w'.ownsRow base e size (.slice (some ⟨w.heap.size, 0, none⟩) m m) m (madeCells z.cells (m * size)).toList → w.grownBy w' none → K (a.put o.dst (.slice (some ⟨w.heap.size, 0, none⟩) m m)) w') : o.wpIn F n P a w K Q := by
  obtain ⟨w', hrun, r1, r2⟩ := run_make_full (P := P) w base t e i z size h1 h2 h3 h4 kl kc m b2 b3 b4
  unfold Oper.wpIn
  refine ⟨?_, ?_⟩
  · simp [Oper.about, hop, Sem.run_pure]
  · rw [hro, Oper.semAt_none]
    simp [execOp, hop, hl, hc, hrun, Result.andThen]
    exact h w' r1 r2
end
theorem own_at {w w' : World} {base n size : Nat} {e : TypeId} {v : Value} {xs : List Value} (h : w.ownsRow base e size v n xs) (hb : ∀ g, v.ownBlock = some g → w'.heap[g]? = w.heap[g]?) : w'.ownsRow base e size v n xs := by
  refine ⟨h.1, h.2.imp id ?_⟩
  rintro ⟨g, cap, cur, rfl, h2, h3, h4⟩
  exact ⟨g, cap, cur, rfl, h2, (hb g rfl).trans h3, h4⟩

theorem own_slice {W : World} {base n size : Nat} {e : TypeId} {v : Value} {xs : List Value} (h : W.ownsRow base e size v n xs) : ∃ A k c, v = .slice A k c := by
  rcases h.2 with ⟨h1, _⟩ | ⟨g, cap, cur, h1, _⟩ <;> exact ⟨_, _, _, h1⟩

theorem cell_one3 (w : World) (v : Value) (t : TypeId) : ∀ j u, [v][j]? = some u → (w.alloc (.cells #[v] t)).cell? ((⟨w.heap.size, 0, none⟩ : Addr).add j) = some u := fun j u hj => by
  rcases j with _ | j
  · simp at hj; subst hj; simp [Addr.add, go_sem]
  · simp at hj

theorem ints_ownN {W : World} {base n : Nat} {v : Value} {xs : List Int} {e : TypeId} (h : W.ownsRow base e 1 v n (xs.map I)) (hn : xs.length = n) :
    ∃ A c, v = .slice A xs.length c ∧ Ints W W.heap.size A xs := by
  rcases h.2 with ⟨h1, h2⟩ | ⟨g, cap, cur, rfl, _⟩
  · exact ⟨none, 0, by rw [h1, hn, h2], fun h => by omega⟩
  · subst hn
    exact ⟨_, _, rfl, ints_of_own h rfl⟩

theorem ints_new (xs : List Int) (W : World) (t : TypeId) : Ints (W.alloc (.cells (xs.map I).toArray t)) (W.heap.size + 1) (some ⟨W.heap.size, 0, none⟩) xs := fun _ => by
  refine ⟨_, 0, rfl, by omega, fun k hk => ?_⟩
  simp [go_sem, hk]


def xF (xl : List Int) : Nat → Int := fun k => xl.getD k 0
theorem xF_set {xl : List Int} {i : Nat} (h : i < xl.length) (v : Int) (k : Nat) : xF (xl.set i v) k = if k = i then v else xF xl k := by
  unfold xF
  by_cases e : k = i
  · subst e; simp [List.getD, h]
  · simp [List.getD, e, List.getElem?_set, Ne.symm e]

theorem box_made {W : World} {base g n : Nat} {e : TypeId} (h : W.ownsRow base e 1 (.slice (some ⟨g, 0, none⟩) n n) n (madeCells (I 0).cells (n * 1)).toList) : Box W g ((List.replicate n (0 : Int)).map I) := by
  have hl := h.lt g rfl
  refine ⟨hl.2, fun k hk => ?_⟩
  have hk' : k < n := by simpa using hk
  have c0 := h.cells (g := g) rfl k (I 0) (by simp [madeCells, Value.cells, hk', Nat.mod_one])
  rw [Addr.add_lit, Nat.zero_add] at c0
  refine ⟨by simpa using c0, ?_⟩
  obtain ⟨_, h2⟩ := h
  rcases h2 with ⟨h3, _⟩ | ⟨g', cap, cur, h3, _, h4, _⟩
  · cases h3
  · injection h3 with h5 h6 h7
    obtain rfl : g = g' := by simpa using h5
    simp [World.frozen?, h4]

theorem box_setI {W : World} {S : Nat} {xl : List Int} (h : Box W S (xl.map I)) (i : Nat) (v : Int) : Box (W.setCell ⟨S, i, none⟩ (I v)) S ((xl.set i v).map I) := by
  have := h.set i (I v)
  rwa [← List.map_set] at this

theorem ret_b {a b : Bool} (h : a = b) : Ending.returned (.bool a) = .returned (.bool b) := by rw [h]

theorem below_call {w a w' : World} (h : Below w.heap.size w a) (hB : Below a.heap.size a w') : Below w.heap.size w w' := h.trans (hB.mono h.size)
def inB (n lo hi : Int) : Bool := decide (lo ≤ n) && decide (n ≤ hi)
theorem inB_true {n lo hi : Int} : inB n lo hi = true ↔ lo ≤ n ∧ n ≤ hi := by simp [inB]
theorem inB_false {n lo hi : Int} : inB n lo hi = false ↔ ¬ (lo ≤ n ∧ n ≤ hi) := by rw [← inB_true]; simp
theorem ret_bool {a b : Bool} (h : a = true ↔ b = true) : Ending.returned (.bool a) = .returned (.bool b) := by rw [Bool.eq_iff_iff.2 h]
abbrev nilS : Value := .slice none 0 0
/-- A row of spots, four ints each, below block B. -/
def Fours (w : World) (B : Nat) (A : Option Addr) (xs : List (Int × Int × Int × Int)) : Prop :=
  0 < xs.length → ∃ b off, A = some ⟨b, off, none⟩ ∧ b < B ∧ ∀ k (h : k < xs.length), w.cell? ⟨b, off + k * 4, none⟩ = some (I xs[k].1) ∧ w.cell? ⟨b, off + k * 4 + 1, none⟩ = some (I xs[k].2.1) ∧ w.cell? ⟨b, off + k * 4 + 2, none⟩ = some (I xs[k].2.2.1) ∧ w.cell? ⟨b, off + k * 4 + 3, none⟩ = some (I xs[k].2.2.2)
section
variable {w w' : World} {B B' : Nat} {A : Option Addr} {xs : List (Int × Int × Int × Int)}
theorem Fours.keep (h : Fours w B A xs) (hk : ∀ p : Addr, p.block < B → w'.cell? p = w.cell? p) : Fours w' B A xs := fun h0 => by
  obtain ⟨b, off, hA, hb, hc⟩ := h h0
  exact ⟨b, off, hA, hb, fun k hk' => ⟨(hk _ hb).trans (hc k hk').1, (hk _ hb).trans (hc k hk').2.1, (hk _ hb).trans (hc k hk').2.2.1, (hk _ hb).trans (hc k hk').2.2.2⟩⟩
theorem Fours.more (h : Fours w B A xs) (hB : B ≤ B') : Fours w B' A xs := fun h0 => by
  obtain ⟨b, off, hA, hb, hc⟩ := h h0
  exact ⟨b, off, hA, by omega, hc⟩
theorem Fours.below (h : Fours w B A xs) (hb : Below B w w') : Fours w' B A xs := h.keep fun _ hp => hb.cell hp
end
end Go.Proofs.YtomfnldlnoiloaaDoor
/- Rows of spots of one's own; an append to an empty literal; copies of a struct in whatever order they are made. -/
namespace Go.Proofs.YtomfnldlnoiloaaDoor
set_option linter.unusedVariables false
set_option linter.unusedSimpArgs false
open Go Go.RowKit
def flat4 (l : List (Int × Int × Int × Int)) : List Value := l.flatMap fun s => [I s.1, I s.2.1, I s.2.2.1, I s.2.2.2]
theorem flat4_len : ∀ l : List (Int × Int × Int × Int), (flat4 l).length = l.length * 4
  | [] => rfl
  | s :: l => by
    have := flat4_len l
    simp only [flat4, List.flatMap_cons, List.length_append, List.length_cons, List.length_nil] at this ⊢
    omega
theorem flat4_get : ∀ (l : List (Int × Int × Int × Int)) (k : Nat) (h : k < l.length), (flat4 l)[k * 4]? = some (I l[k].1) ∧ (flat4 l)[k * 4 + 1]? = some (I l[k].2.1) ∧ (flat4 l)[k * 4 + 2]? = some (I l[k].2.2.1) ∧ (flat4 l)[k * 4 + 3]? = some (I l[k].2.2.2)
  | [], k, h => by simp at h
  | s :: l, 0, _ => by simp [flat4]
  | s :: l, k + 1, h => by
    have ih := flat4_get l k (by simpa using h)
    rw [show (k + 1) * 4 = k * 4 + 4 by omega]
    have e2 : flat4 (s :: l) = I s.1 :: I s.2.1 :: I s.2.2.1 :: I s.2.2.2 :: flat4 l := by simp [flat4]
    rw [e2]
    simpa using ih
theorem flat4_one (l : List (Int × Int × Int × Int)) : ∀ u ∈ flat4 l, u.oneCell' = true := fun u hu => by
  obtain ⟨x, _, hx⟩ := List.mem_flatMap.1 hu
  simp at hx
  rcases hx with rfl | rfl | rfl | rfl <;> rfl
theorem flat4_set : ∀ (l : List (Int × Int × Int × Int)) (k : Nat) (z : Int) (h : k < l.length), flat4 (l.set k (l[k].1, l[k].2.1, l[k].2.2.1, z)) = (flat4 l).set (k * 4 + 3) (I z)
  | [], k, _, h => by simp at h
  | s :: l, 0, z, _ => by simp [flat4]
  | s :: l, k + 1, z, h => by
    have ih := flat4_set l k z (by simpa using h)
    rw [show (k + 1) * 4 + 3 = (k * 4 + 3) + 1 + 1 + 1 + 1 by omega]
    have e2 : ∀ (s : Int × Int × Int × Int) l, flat4 (s :: l) = I s.1 :: I s.2.1 :: I s.2.2.1 :: I s.2.2.2 :: flat4 l := fun s l => by simp [flat4]
    simp only [List.set_cons_succ, List.getElem_cons_succ, e2]
    rw [ih]
theorem flat4_at {W : World} {B : Nat} {A : Option Addr} {xs : List (Int × Int × Int × Int)} (h : Fours W B A xs) : 0 < xs.length → ∃ ad, A = some ad ∧ ∀ j u, (flat4 xs)[j]? = some u → W.cell? (ad.add j) = some u := fun h0 => by
  obtain ⟨b, off, rfl, _, hc⟩ := h h0
  refine ⟨_, rfl, fun j u hj => ?_⟩
  have hj' : j < xs.length * 4 := by
    have := (List.getElem?_eq_some_iff.1 hj).1
    rwa [flat4_len] at this
  have hk : j / 4 < xs.length := by omega
  obtain ⟨c0, c1, c2, c3⟩ := hc (j / 4) hk
  obtain ⟨d0, d1, d2, d3⟩ := flat4_get xs (j / 4) hk
  rw [Addr.add_lit]
  rcases (by omega : j = j / 4 * 4 ∨ j = j / 4 * 4 + 1 ∨ j = j / 4 * 4 + 2 ∨ j = j / 4 * 4 + 3) with e | e | e | e
  · rw [e] at hj ⊢; rw [d0] at hj; cases hj; exact c0
  · rw [e] at hj ⊢; rw [d1] at hj; cases hj; rw [← Nat.add_assoc]; exact c1
  · rw [e] at hj ⊢; rw [d2] at hj; cases hj; rw [← Nat.add_assoc]; exact c2
  · rw [e] at hj ⊢; rw [d3] at hj; cases hj; rw [← Nat.add_assoc]; exact c3
theorem fours_own {W : World} {base g n cap : Nat} {e : TypeId} {xs : List (Int × Int × Int × Int)} (h : W.ownsRow base e 4 (.slice (some ⟨g, 0, none⟩) n cap) n (flat4 xs)) : Fours W W.heap.size (some ⟨g, 0, none⟩) xs := fun _ => by
  refine ⟨g, 0, rfl, (h.lt g rfl).2, fun k hk => ?_⟩
  have hc := h.cells (g := g) rfl
  obtain ⟨a, b, d, f⟩ := flat4_get xs k hk
  have ha := hc _ _ a
  have hb := hc _ _ b
  have hd := hc _ _ d
  have hf := hc _ _ f
  rw [Addr.add_lit] at ha hb hd hf
  exact ⟨ha, hb, hd, hf⟩
theorem ints_own {W : World} {base g n cap : Nat} {e : TypeId} {xs : List Int} (h : W.ownsRow base e 1 (.slice (some ⟨g, 0, none⟩) n cap) n (xs.map I)) : Ints W W.heap.size (some ⟨g, 0, none⟩) xs := fun _ => by
  refine ⟨g, 0, rfl, (h.lt g rfl).2, fun k hk => ?_⟩
  have hc := h.cells (g := g) rfl k (I xs[k]) (by simp [hk])
  rwa [Addr.add_lit] at hc
theorem ints_at {W : World} {B : Nat} {A : Option Addr} {xs : List Int} (h : Ints W B A xs) : 0 < xs.length → ∃ ad, A = some ad ∧ ∀ j u, (xs.map I)[j]? = some u → W.cell? (ad.add j) = some u := fun h0 => by
  obtain ⟨b, off, rfl, _, hc⟩ := h h0
  refine ⟨_, rfl, fun j u hj => ?_⟩
  obtain ⟨hj1, rfl⟩ := List.getElem?_eq_some_iff.1 hj
  rw [Addr.add_lit, hc j (by simpa using hj1)]
  simp
/-- What an append to an empty literal leaves. -/
theorem app_new {w w' : World} {t e : TypeId} {size n : Nat} {v : Value} {xs : List Value} (hown : w'.ownsRow w.heap.size e size v (0 + n) ([] ++ xs)) (hg : (w.alloc (.cells #[] t)).grownBy w' (some w.heap.size)) (hn : 0 < n) :
    ∃ g cap, v = .slice (some ⟨g, 0, none⟩) n cap ∧ Below w.heap.size w w' ∧ w.heap.size ≤ g ∧ g < w'.heap.size ∧ Hid (w'.ownsRow w.heap.size e size (.slice (some ⟨g, 0, none⟩) n cap) n xs) := by
  rw [Nat.zero_add, List.nil_append] at hown
  rcases hown.2 with h1 | ⟨g, cap, cur, rfl, hb, hc, h3, h4, _⟩
  · omega
  · exact ⟨g, cap, rfl, ((Below.refl _ w).alloc (Nat.le_refl _) _).grown hg (by simp) (by intro k hk; cases hk; exact Nat.le_refl _), hb, (hown.lt g rfl).2, Lib.hid hown⟩
end Go.Proofs.YtomfnldlnoiloaaDoor
/- Four copies of a deck, in whatever order they are made. -/
namespace Go.Proofs.YtomfnldlnoiloaaDoor
set_option linter.unusedVariables false
set_option linter.unusedSimpArgs false
open Go Go.RowKit

theorem Box.frm {N : Nat} {S : Nat → Prop} {W W' : World} {b : Nat} {vs : List Value} (h : Box W b vs) (hF : Frm N S W W') (hb : b < N) (hS : ¬ S b) : Box W' b vs :=
  h.keep hF.size (fun _ => hF.cell hb hS) (fun _ => hF.frozen hb hS)

/-- The state of k copies: operations 0 .. k-1 load, k .. 2k-1 make the blocks, 2k .. 3k-1 store. -/
structure Js (k N : Nat) (w4 : World) (D Z : List Value) (l : Nat → Bool) (val : Nat → Value) (W : World) : Prop where
  low : Below N w4 W
  size : N ≤ W.heap.size
  loads : ∀ i, i < k → l i = true → val i = .agg D.toArray
  order : ∀ i, i < k → l (k + k + i) = true → l (k + i) = true
  boxes : ∀ i, i < k → l (k + i) = true → ∃ g, val (k + i) = .pointer (some ⟨g, 0, none⟩) ∧ N ≤ g ∧ Box W g (if l (k + k + i) = true then D else Z)
  apart : ∀ i j, i < k → j < k → i ≠ j → l (k + i) = true → l (k + j) = true → val (k + i) ≠ val (k + j)
section
variable {k N : Nat} {w4 : World} {D Z : List Value} {l : Nat → Bool} {val : Nat → Value} {W : World}
theorem Js.start (w4 : World) (k N : Nat) (hN : N ≤ w4.heap.size) (D Z : List Value) : Js k N w4 D Z (fun _ => false) (fun _ => undef) w4.drew :=
  ⟨(Below.refl _ _).drew, hN, fun _ _ h => (by cases h), fun _ _ h => (by cases h), fun _ _ h => (by cases h), fun _ _ _ _ _ h => (by cases h)⟩
theorem Js.load (h : Js k N w4 D Z l val W) (i : Nat) (hi : i < k) : Js k N w4 D Z (fun j => j == i || l j) (fun j => if j = i then .agg D.toArray else val j) W := by
  have a1 : ∀ j, (k + j == i) = false := fun j => by simp; omega
  have a2 : ∀ j, (k + k + j == i) = false := fun j => by simp; omega
  have a3 : ∀ j, ¬ (k + j = i) := fun j => by omega
  refine ⟨h.low, h.size, fun j hj hl => ?_, fun j hj hl => ?_, fun j hj hl => ?_, fun j j' hj hj' hne hl hl' => ?_⟩
  · by_cases e : j = i
    · simp [e]
    · simp only [e, if_false]
      exact h.loads j hj (by simpa [e] using hl)
  · simp only [a1, a2, Bool.false_or] at hl ⊢
    exact h.order j hj hl
  · simp only [a1, a2, a3, Bool.false_or, if_false] at hl ⊢
    exact h.boxes j hj hl
  · simp only [a1, a3, Bool.false_or, if_false] at hl hl' ⊢
    exact h.apart j j' hj hj' hne hl hl'
theorem Js.alloc (h : Js k N w4 D Z l val W) (i : Nat) (hi : i < k) (hli : l (k + i) = false) (t : TypeId) : Js k N w4 D Z (fun j => j == k + i || l j) (fun j => if j = k + i then .pointer (some ⟨W.heap.size, 0, none⟩) else val j) (W.alloc (.cells Z.toArray t)) := by
  have hs : l (k + k + i) = false := by
    cases e : l (k + k + i) with
    | false => rfl
    | true => have := h.order i hi e; rw [hli] at this; cases this
  have a2 : ∀ j, (k + k + j == k + i) = false := fun j => by simp; omega
  refine ⟨h.low.alloc h.size _, by have := h.size; simp; omega, fun j hj hl => ?_, fun j hj hl => ?_, fun j hj hl => ?_, fun j j' hj hj' hne hl hl' => ?_⟩
  · have e1 : (j == k + i) = false := by simp; omega
    have e2 : ¬ j = k + i := by omega
    simp only [e1, e2, Bool.false_or, if_false] at hl ⊢
    exact h.loads j hj hl
  · simp only [a2, Bool.false_or] at hl
    simp [h.order j hj hl]
  · by_cases e : j = i
    · subst e
      simp only [a2, hs, if_true, Bool.false_or, Bool.false_eq_true, if_false]
      exact ⟨_, rfl, h.size, Box.new W Z t⟩
    · have e1 : (k + j == k + i) = false := by simp; omega
      have e2 : ¬ k + j = k + i := by omega
      simp only [a2, e1, e2, Bool.false_or, if_false] at hl ⊢
      obtain ⟨g, h1, h2, h3⟩ := h.boxes j hj hl
      exact ⟨g, h1, h2, h3.alloc _⟩
  · have key : ∀ j, j < k → j ≠ i → (k + j == k + i || l (k + j)) = true → val (k + j) ≠ .pointer (some ⟨W.heap.size, 0, none⟩) := fun j hj hji hl => by
      have e1 : (k + j == k + i) = false := by simp; omega
      rw [e1, Bool.false_or] at hl
      obtain ⟨g, h1, h2, h3⟩ := h.boxes j hj hl
      rw [h1]
      intro he
      have := h3.1
      have he2 := Value.pointer.inj he
      simp at he2
      try omega
    have e2 : ∀ j, j ≠ i → ¬ k + j = k + i := fun j h => by omega
    by_cases ej : j = i
    · subst ej
      simp only [if_true, e2 j' (Ne.symm hne), if_false]
      exact (key j' hj' (Ne.symm hne) hl').symm
    · by_cases ej' : j' = i
      · subst ej'
        simp only [if_true, e2 j ej, if_false]
        exact key j hj ej hl
      · have f1 : (k + j == k + i) = false := by simp; omega
        have f2 : (k + j' == k + i) = false := by simp; omega
        simp only [e2 j ej, e2 j' ej', f1, f2, Bool.false_or, if_false] at hl hl' ⊢
        exact h.apart j j' hj hj' hne hl hl'
theorem Js.store (h : Js k N w4 D Z l val W) (i : Nat) (hi : i < k) (hli : l (k + i) = true) {g : Nat} (hg : val (k + i) = .pointer (some ⟨g, 0, none⟩)) (v : Value) {W' : World} (hF : Frm W.heap.size (· = g) W W') (hb : Box W' g D) :
    Js k N w4 D Z (fun j => j == k + k + i || l j) (fun j => if j = k + k + i then v else val j) W' := by
  obtain ⟨g', h1, h2, h3⟩ := h.boxes i hi hli
  obtain rfl : g = g' := by rw [hg] at h1; simpa using h1
  have a1 : ∀ j, j < k → (j == k + k + i) = false := fun j hj => by simp; omega
  have a2 : ∀ j, j < k → (k + j == k + k + i) = false := fun j hj => by simp; omega
  have a3 : ∀ j, j < k → ¬ (j = k + k + i) := fun j hj => by omega
  have a4 : ∀ j, j < k → ¬ (k + j = k + k + i) := fun j hj => by omega
  refine ⟨h.low.trans (hF.below h.size (by omega)), by have := hF.size; have := h.size; omega, fun j hj hl => ?_, fun j hj hl => ?_, fun j hj hl => ?_, fun j j' hj hj' hne hl hl' => ?_⟩
  · simp only [a1 j hj, a3 j hj, Bool.false_or, if_false] at hl ⊢
    exact h.loads j hj hl
  · simp only [a2 j hj, Bool.false_or]
    by_cases e : j = i
    · subst e; exact hli
    · have e1 : (k + k + j == k + k + i) = false := by simp; omega
      simp only [e1, Bool.false_or] at hl
      exact h.order j hj hl
  · simp only [a2 j hj, a4 j hj, Bool.false_or, if_false] at hl ⊢
    by_cases e : j = i
    · subst e
      exact ⟨g, hg, h2, by simpa using hb⟩
    · have e1 : (k + k + j == k + k + i) = false := by simp; omega
      obtain ⟨g2, h4, h5, h6⟩ := h.boxes j hj hl
      refine ⟨g2, h4, h5, ?_⟩
      simp only [e1, Bool.false_or]
      refine h6.frm hF h6.1 (fun hs => ?_)
      subst hs
      exact h.apart j i hj hi e hl hli (h4.trans hg.symm)
  · simp only [a2 j hj, a2 j' hj', a4 j hj, a4 j' hj', Bool.false_or, if_false] at hl hl' ⊢
    exact h.apart j j' hj hj' hne hl hl'
end
theorem frm_set (W V : World) (g : Nat) {N : Nat} (h : Frm N (fun j => j = g) W V) (o : Nat) (v : Value) : Frm N (fun j => j = g) W (V.setCell ⟨g, o, none⟩ v) := h.setCell (.inr rfl) v
theorem frm_set3 (W : World) (g : Nat) (a b c : Value) : Frm W.heap.size (fun j => j = g) W (((W.setCell ⟨g, 0, none⟩ a).setCell ⟨g, 1, none⟩ b).setCell ⟨g, 2, none⟩ c) :=
  frm_set _ _ _ (frm_set _ _ _ (frm_set _ _ _ (Frm.refl _ _ _) _ _) _ _) _ _
end Go.Proofs.YtomfnldlnoiloaaDoor
