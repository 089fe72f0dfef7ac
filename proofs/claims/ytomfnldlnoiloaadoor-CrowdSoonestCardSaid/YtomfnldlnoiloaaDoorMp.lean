/- Maps that a call keeps: what lies at each key, whatever the elements are. -/
import Derived.Test.YtomfnldlnoiloaaDoorU
import Derived.WideKeyEntry
import Derived.Maps.OwnIn
namespace Go.Proofs.YtomfnldlnoiloaaDoor
set_option linter.unusedVariables false
set_option linter.unusedSimpArgs false
open Go Go.RowKit Go.MapKept Go.Maps

section
variable {P : Program} {k : TypeId}
/-- A value that reads as a key. -/
def IsK (P : Program) (k : TypeId) (v : Value) : Prop := ∃ l, keyOf P k v = some l
/-- Entries that hold f. -/
structure Ents (P : Program) (k : TypeId) (es : Array MapEntry) (clock : Nat) (f : Value → Option Value) : Prop where
  st : Stamped es clock
  keys : ∀ e ∈ es.toList, IsK P k e.key
  at_ : ∀ key x, f key = some x ↔ ∃ e ∈ es.toList, e.key = key ∧ e.val = x
open Classical in
noncomputable def putF (f : Value → Option Value) (key v : Value) : Value → Option Value := fun q => if q = key then some v else f q
/-- Block b is a map of at most n entries: f key lies at each key. -/
def MapAt (P : Program) (k : TypeId) (w : World) (b n : Nat) (f : Value → Option Value) : Prop := ∃ es clock, w.heap[b]? = some (.map es clock) ∧ es.size ≤ n ∧ Ents P k es clock f
/-- .. one of whose entries, at key, was born at st. -/
def EntAt (P : Program) (k : TypeId) (w : World) (b n : Nat) (f : Value → Option Value) (key : Value) (st : Nat) : Prop := ∃ es clock, w.heap[b]? = some (.map es clock) ∧ es.size ≤ n ∧ Ents P k es clock f ∧ ∃ e0 ∈ es.toList, e0.key = key ∧ e0.born = st
theorem MapAt.lt {w : World} {b n : Nat} {f : Value → Option Value} (h : MapAt P k w b n f) : b < w.heap.size := by
  obtain ⟨es, clock, hb, _⟩ := h
  exact (Array.getElem?_eq_some_iff.1 hb).1
theorem EntAt.map {w : World} {b n : Nat} {f : Value → Option Value} {key : Value} {st : Nat} (h : EntAt P k w b n f key st) : MapAt P k w b n f := by
  obtain ⟨es, clock, hb, hs, E, _⟩ := h
  exact ⟨es, clock, hb, hs, E⟩
theorem MapAt.heap {w w' : World} {b n : Nat} {f : Value → Option Value} (h : MapAt P k w b n f) (hb : w'.heap[b]? = w.heap[b]?) : MapAt P k w' b n f := by
  obtain ⟨es, clock, h1, h2⟩ := h
  exact ⟨es, clock, hb.trans h1, h2⟩
theorem EntAt.heap {w w' : World} {b n : Nat} {f : Value → Option Value} {key : Value} {st : Nat} (h : EntAt P k w b n f key st) (hb : w'.heap[b]? = w.heap[b]?) : EntAt P k w' b n f key st := by
  obtain ⟨es, clock, h1, h2⟩ := h
  exact ⟨es, clock, hb.trans h1, h2⟩
theorem MapAt.below {w w' : World} {b n B : Nat} {f : Value → Option Value} (h : MapAt P k w b n f) (hB : Below B w w') (hb : b < B) : MapAt P k w' b n f := h.heap (hB.block b hb)
theorem MapAt.grown {w w' : World} {b n : Nat} {f : Value → Option Value} {row : Option Nat} (h : MapAt P k w b n f) (hg : w.grownBy w' row) (hr : some b ≠ row) : MapAt P k w' b n f := h.heap (hg.block b h.lt hr)
theorem EntAt.grown {w w' : World} {b n : Nat} {f : Value → Option Value} {key : Value} {st : Nat} {row : Option Nat} (h : EntAt P k w b n f key st) (hg : w.grownBy w' row) (hr : some b ≠ row) : EntAt P k w' b n f key st := h.heap (hg.block b h.map.lt hr)
theorem MapAt.frm {N : Nat} {S : Nat → Prop} {w w' : World} {b n : Nat} {f : Value → Option Value} (h : MapAt P k w b n f) (hF : Frm N S w w') (hb : b < N) (hS : ¬ S b) : MapAt P k w' b n f := h.heap (hF.block b hb hS)
theorem MapAt.alloc {w : World} {b n : Nat} {f : Value → Option Value} (h : MapAt P k w b n f) (o : Obj) : MapAt P k (w.alloc o) b n f := h.grown (World.grownBy_alloc w o none) (by simp)
theorem EntAt.alloc {w : World} {b n : Nat} {f : Value → Option Value} {key : Value} {st : Nat} (h : EntAt P k w b n f key st) (o : Obj) : EntAt P k (w.alloc o) b n f key st := h.grown (World.grownBy_alloc w o none) (by simp)
theorem MapAt.drew {w : World} {b n : Nat} {f : Value → Option Value} (h : MapAt P k w b n f) : MapAt P k w.drew b n f := h
theorem MapAt.drewN {w : World} {b n : Nat} {f : Value → Option Value} (h : MapAt P k w b n f) (j : Nat) : MapAt P k (w.drewN j) b n f := h
theorem MapAt.setCell {w : World} {b n : Nat} {f : Value → Option Value} (h : MapAt P k w b n f) {p : Addr} (hp : p.block ≠ b) (u : Value) : MapAt P k (w.setCell p u) b n f := h.frm ((Frm.refl w.heap.size (· = p.block) w).setCell (.inr rfl) u) h.lt (fun e => hp e.symm)
theorem MapAt.mono {w : World} {b n n' : Nat} {f : Value → Option Value} (h : MapAt P k w b n f) (hn : n ≤ n') : MapAt P k w b n' f := by
  obtain ⟨es, clock, h1, h2, h3⟩ := h
  exact ⟨es, clock, h1, by omega, h3⟩
theorem MapAt.congr {w : World} {b n : Nat} {f g : Value → Option Value} (h : MapAt P k w b n f) (e : ∀ v, f v = g v) : MapAt P k w b n g := by
  rw [show g = f from funext fun v => (e v).symm]
  exact h
theorem MapAt.new (w : World) (P : Program) (k : TypeId) : MapAt P k (w.alloc (.map #[] 0)) w.heap.size 0 (fun _ => none) :=
  ⟨#[], 0, (heap_alloc w _).1, Nat.le_refl _, stamped_empty 0, by simp, by simp⟩
variable {w : World} {t e : TypeId} {b n : Nat} {f : Value → Option Value}
theorem Ents.find {es : Array MapEntry} {clock : Nat} (E : Ents P k es clock f) (K : Keyed P k) (w : World) {key : Value} (hk : IsK P k key) :
    ((Instr.findKey k key es.toList).run P w = .ok none w ∧ (∀ e ∈ es.toList, e.key ≠ key) ∧ f key = none) ∨ ∃ j e0, (Instr.findKey k key es.toList).run P w = .ok (some (j, e0.val)) w ∧ es.toList[j]? = some e0 ∧ e0.key = key ∧ f key = some e0.val := by
  obtain ⟨l, hl⟩ := hk
  rcases K.find w hl es.toList E.keys with ⟨h1, h2⟩ | ⟨j, e0, h1, h2, h3⟩
  · refine .inl ⟨h1, h2, ?_⟩
    cases hf : f key with
    | none => rfl
    | some x =>
      obtain ⟨e0, he, h3, _⟩ := (E.at_ key x).1 hf
      exact absurd h3 (h2 e0 he)
  · exact .inr ⟨j, e0, h1, h2, h3, (E.at_ key _).2 ⟨e0, List.mem_of_getElem? h2, h3, rfl⟩⟩
theorem MapAt.lookup (h : MapAt P k w b n f) (K : Keyed P k) (ht : P.underlying t = some (.map k e)) {z : Value} (hz : (zeroValue e).run P w = .ok z w) {key : Value} (hk : IsK P k key) :
    (Instr.lookup t (.map (some b)) key false).run P w = .ok ((f key).getD z) w := by
  obtain ⟨es, clock, hb, _, E⟩ := h
  obtain ⟨l, hl⟩ := hk
  rcases E.find K w ⟨l, hl⟩ with ⟨h1, _, h3⟩ | ⟨j, e0, h1, _, _, h4⟩
  · simp [Instr.lookup, run_underlying ht, MapKept.run_getObj_map hb, K.check w _ hl, h1, hz, h3, Result.andThen]
  · simp [Instr.lookup, run_underlying ht, MapKept.run_getObj_map hb, K.check w _ hl, h1, h4, Result.andThen]
theorem mem_set_iff {l : List MapEntry} {j : Nat} {e0 e1 : MapEntry} (h : l[j]? = some e0) (hd : l.Pairwise fun x y => x.key ≠ y.key) (x : MapEntry) : x ∈ l.set j e1 ↔ x = e1 ∨ (x ∈ l ∧ x.key ≠ e0.key) := by
  obtain ⟨hj, he⟩ := List.getElem?_eq_some_iff.1 h
  have hp := List.pairwise_iff_getElem.1 hd
  constructor
  · intro hx
    obtain ⟨i, hi, ex⟩ := List.getElem_of_mem hx
    rw [List.getElem_set] at ex
    have hi' : i < l.length := by simpa using hi
    split at ex
    · exact .inl ex.symm
    · rename_i hne
      refine .inr ⟨ex ▸ List.getElem_mem hi', ?_⟩
      rw [← ex, ← he]
      rcases Nat.lt_trichotomy i j with a | a | a
      · exact hp i j hi' hj a
      · exact absurd a.symm hne
      · exact (hp j i hj hi' a).symm
  · rintro (rfl | ⟨hx, hne⟩)
    · exact List.mem_iff_getElem.2 ⟨j, by simpa using hj, by simp⟩
    · obtain ⟨i, hi, rfl⟩ := List.getElem_of_mem hx
      refine List.mem_iff_getElem.2 ⟨i, by simpa using hi, ?_⟩
      rw [List.getElem_set, if_neg]
      intro e1
      subst e1
      exact hne (by rw [he])
theorem setBlock_grown {w : World} {b : Nat} {es : Array MapEntry} {clock : Nat} (hb : w.heap[b]? = some (.map es clock)) (o' : Obj) : w.grownBy (ChangeMaps.setBlock w b o') (some b) :=
  ⟨rfl, rfl, rfl, by simp [ChangeMaps.setBlock], fun i _ hi => ChangeMaps.heap_setBlock_other hb _ (fun e => hi (by rw [e]))⟩
theorem Ents.push {es : Array MapEntry} {clock : Nat} (E : Ents P k es clock f) {key : Value} (hk : IsK P k key) (hno : ∀ e ∈ es.toList, e.key ≠ key) (v : Value) : Ents P k (es.push ⟨key, v, clock⟩) (clock + 1) (putF f key v) := by
  refine ⟨MapKept.stamped_push E.st hno, fun x hx => ?_, fun q x => ?_⟩
  · simp only [Array.toList_push, List.mem_append, List.mem_singleton] at hx
    rcases hx with hx | rfl
    · exact E.keys x hx
    · exact hk
  · unfold putF
    simp only [Array.toList_push, List.mem_append, List.mem_singleton]
    by_cases hq : q = key
    · rw [if_pos hq]
      subst hq
      constructor
      · intro h; cases h; exact ⟨_, .inr rfl, rfl, rfl⟩
      · rintro ⟨y, hy | rfl, h1, h2⟩
        · exact absurd h1 (hno y hy)
        · rw [← h2]
    · rw [if_neg hq, E.at_ q x]
      constructor
      · rintro ⟨y, hy, h⟩; exact ⟨y, .inl hy, h⟩
      · rintro ⟨y, hy | rfl, h1, h2⟩
        · exact ⟨y, hy, h1, h2⟩
        · exact absurd h1.symm hq
theorem Ents.modify {es : Array MapEntry} {clock : Nat} (E : Ents P k es clock f) {j : Nat} {e0 : MapEntry} (hj : es.toList[j]? = some e0) (g : MapEntry → MapEntry) (v : Value) (hg : g e0 = { e0 with val := v }) (hgb : ∀ e, (g e).born = e.born) :
    Ents P k (es.modify j g) clock (putF f e0.key v) := by
  have hj' : es[j]? = some e0 := by simpa using hj
  have hlist : (es.modify j g).toList = es.toList.set j { e0 with val := v } := by rw [Array.toList_modify, ChangeMaps.modify_eq_set _ _ _ _ hj, hg]
  have hd : es.toList.Pairwise (fun x y => x.key ≠ y.key) := ((stamped_iff es clock).1 E.st).2.2
  refine ⟨stamped_modify E.st _ _ (fun e _ => hgb e) (fun e' _ he' => ?_), fun x hx => ?_, fun q x => ?_⟩
  · rw [hj'] at he'; cases he'; rw [hg]
  · rw [hlist] at hx
    rcases (mem_set_iff hj hd x).1 hx with rfl | ⟨h, _⟩
    · exact E.keys e0 (List.mem_of_getElem? hj)
    · exact E.keys x h
  · rw [hlist]
    unfold putF
    by_cases hq : q = e0.key
    · rw [if_pos hq]
      subst hq
      constructor
      · intro h; cases h; exact ⟨_, (mem_set_iff hj hd _).2 (.inl rfl), rfl, rfl⟩
      · rintro ⟨y, hy, h1, h2⟩
        rcases (mem_set_iff hj hd y).1 hy with rfl | ⟨_, h⟩
        · rw [← h2]
        · exact absurd h1 h
    · rw [if_neg hq, E.at_ q x]
      constructor
      · rintro ⟨y, hy, h1, h2⟩; exact ⟨y, (mem_set_iff hj hd y).2 (.inr ⟨hy, by rw [h1]; exact hq⟩), h1, h2⟩
      · rintro ⟨y, hy, h1, h2⟩
        rcases (mem_set_iff hj hd y).1 hy with rfl | ⟨h, _⟩
        · exact absurd h1.symm hq
        · exact ⟨y, h, h1, h2⟩
/-- 'm[k] = v'. -/
theorem MapAt.store (h : MapAt P k w b n f) (K : Keyed P k) (ht : P.underlying t = some (.map k e)) {key : Value} (hk : IsK P k key) (v : Value) :
    ∃ w', (Instr.mapUpdate t (.map (some b)) key v).run P w = .ok () w' ∧ MapAt P k w' b (n + 1) (putF f key v) ∧ w.grownBy w' (some b) ∧ w'.heap.size = w.heap.size := by
  obtain ⟨es, clock, hb, hn, E⟩ := h
  obtain ⟨l, hl⟩ := hk
  rcases E.find K w ⟨l, hl⟩ with ⟨h1, h2, h3⟩ | ⟨j, e0, h1, h2, h3, h4⟩
  · refine ⟨_, ?_, ⟨es.push ⟨key, v, clock⟩, clock + 1, ChangeMaps.heap_setBlock_same hb _, by simp; omega, E.push ⟨l, hl⟩ h2 v⟩, setBlock_grown hb _, by simp [ChangeMaps.setBlock]⟩
    simp [Instr.mapUpdate, run_underlying ht, MapKept.run_getObj_map hb, K.check w false hl, h1, MapKept.run_setObj_map _ hb, Result.andThen, ChangeMaps.setBlock]
  · have hj : es[j]? = some e0 := by simpa using h2
    subst h3
    refine ⟨_, ?_, ⟨es.modify j (fun e' => { e' with key := e0.key, val := v }), clock, ChangeMaps.heap_setBlock_same hb _, by simp; omega, E.modify h2 _ v rfl fun _ => rfl⟩, setBlock_grown hb _, by simp [ChangeMaps.setBlock]⟩
    simp [Instr.mapUpdate, run_underlying ht, MapKept.run_getObj_map hb, K.check w false hl, h1, hj, K.stays w hl, MapKept.run_setObj_map _ hb, Result.andThen, ChangeMaps.setBlock]
/-- 'm[k] = f(m[k])', its first half. -/
theorem MapAt.entry (h : MapAt P k w b n f) (K : Keyed P k) (ht : P.underlying t = some (.map k e)) {z : Value} (hz : ∀ u : World, (zeroValue e).run P u = .ok z u) {key : Value} (hk : IsK P k key) :
    ∃ (w' : World) (st : Nat), (Instr.mapEntry t (.map (some b)) key).run P w = .ok (.tuple #[(f key).getD z, goInt st]) w' ∧ EntAt P k w' b (n + 1) (putF f key ((f key).getD z)) key st ∧ w.grownBy w' (some b) ∧ w'.heap.size = w.heap.size := by
  obtain ⟨es, clock, hb, hn, E⟩ := h
  obtain ⟨l, hl⟩ := hk
  rcases E.find K w ⟨l, hl⟩ with ⟨h1, h2, h3⟩ | ⟨j, e0, h1, h2, h3, h4⟩
  · rw [h3]
    refine ⟨_, clock, ?_, ⟨es.push ⟨key, z, clock⟩, clock + 1, ChangeMaps.heap_setBlock_same hb _, by simp; omega, E.push ⟨l, hl⟩ h2 z, ⟨key, z, clock⟩, by simp, rfl, rfl⟩, setBlock_grown hb _, by simp [ChangeMaps.setBlock]⟩
    simp [Instr.mapEntry, run_underlying ht, MapKept.run_getObj_map hb, K.check w false hl, h1, hz, MapKept.run_setObj_map _ hb, Result.andThen, ChangeMaps.setBlock]
  · have hj : es[j]? = some e0 := by simpa using h2
    subst h3
    rw [h4]
    have hm := E.modify h2 (fun e => { e with key := e0.key }) e0.val rfl fun _ => rfl
    refine ⟨_, e0.born, ?_, ⟨es.modify j (fun e => { e with key := e0.key }), clock, ChangeMaps.heap_setBlock_same hb _, by simp; omega, hm, e0, ?_, rfl, rfl⟩, setBlock_grown hb _, by simp [ChangeMaps.setBlock]⟩
    · simp [Instr.mapEntry, run_underlying ht, MapKept.run_getObj_map hb, K.check w false hl, h1, hj, K.stays w hl, MapKept.run_setObj_map _ hb, Result.andThen, ChangeMaps.setBlock]
    · have hd : es.toList.Pairwise (fun x y => x.key ≠ y.key) := ((stamped_iff es clock).1 E.st).2.2
      rw [Array.toList_modify, ChangeMaps.modify_eq_set _ _ _ _ h2]
      exact (mem_set_iff h2 hd _).2 (.inl rfl)
/-- .. its second half. -/
theorem EntAt.put {key : Value} {st : Nat} (h : EntAt P k w b n f key st) (v : Value) :
    ∃ w', (Instr.entryStore t (.map (some b)) (goInt st) v).run P w = .ok () w' ∧ MapAt P k w' b n (putF f key v) ∧ w.grownBy w' (some b) ∧ w'.heap.size = w.heap.size := by
  obtain ⟨es, clock, hb, hn, E, e0, he, rfl, rfl⟩ := h
  obtain ⟨j, hj⟩ := List.getElem?_of_mem he
  have s2 := ((stamped_iff es clock).1 E.st).2.1
  have hidx : es.findIdx? (fun e => ((e.born : Nat) : Int) == ((e0.born : Nat) : Int)) = some j := by
    rw [WideElems.findIdx_arr]
    exact WideElems.findIdx_born s2 hj
  refine ⟨_, ?_, ⟨es.modify j (fun e => { e with val := v }), clock, ChangeMaps.heap_setBlock_same hb _, by simpa using hn, E.modify hj _ v rfl fun _ => rfl⟩, setBlock_grown hb _, by simp [ChangeMaps.setBlock]⟩
  simp [Instr.entryStore, MapKept.run_getObj_map hb, asInt, asIntOf, goInt, hidx, MapKept.run_setObj_map _ hb, Result.andThen, ChangeMaps.setBlock]
end
theorem putF_same {f : Value → Option Value} {key v : Value} : putF f key v key = some v := by simp [putF]
theorem putF_other {f : Value → Option Value} {key v q : Value} (h : q ≠ key) : putF f key v q = f q := by simp [putF, h]
theorem putF_twice {f : Value → Option Value} {key v u : Value} : putF (putF f key u) key v = putF f key v := funext fun q => by unfold putF; split <;> simp_all

section
variable {P : Program} {k : TypeId} (w : World) {ops : Array Oper} {rest : List Oper} {o : Oper} {a : Act} {Q : Exit → Act → World → Prop}
/-- 'm[k] = v' at the operation: '(at_mapUpdate; refine wpList_store_at _ rfl _ _ _ T (.inl rfl) K E law u B n f rfl hm _ _ rfl rfl hk ?_)', then 'intro w1 hm1 hg1 hs1'. -/
theorem wpList_store_at (hg : o.guard = none) (m x v : Operand) (t : TypeId) (hop : o.op = Op.mapUpdate t m x v ∨ o.op = Op.insert t m x v) (e : TypeId) (K : Keyed P k) (ht : P.underlying t = some (.map k e)) (b n : Nat) (f : Value → Option Value)
    (hm : a.eval m = .map (some b)) (h : MapAt P k w b n f) (key val : Value) (hx : a.eval x = key) (hv : a.eval v = val) (hk : IsK P k key)
    (hK : ∀ w', MapAt P k w' b (n + 1) (putF f key val) → w.grownBy w' (some b) → w'.heap.size = w.heap.size → wpList P ops Q rest (a.put o.dst undef) w') : wpList P ops Q (o :: rest) a w := by
  refine wpList_plain hg fun K' hK' => ?_
  obtain ⟨w', hrun, r1, r2, r3⟩ := h.store K ht hk val
  unfold Oper.wp
  rcases hop with hop | hop <;>
  · simp [execOp, hop, hm, hx, hv, hrun, Result.andThen]
    exact hK' _ _ (hK w' r1 r2 r3)
variable {F : Fence} {nF : Nat}
theorem wpListIn_store_at (hg : o.guard = none) (m x v : Operand) (t : TypeId) (hop : o.op = Op.mapUpdate t m x v ∨ o.op = Op.insert t m x v) (e : TypeId) (K : Keyed P k) (ht : P.underlying t = some (.map k e)) (b n : Nat) (f : Value → Option Value)
    (hm : a.eval m = .map (some b)) (h : MapAt P k w b n f) (key val : Value) (hx : a.eval x = key) (hv : a.eval v = val) (hk : IsK P k key)
    (hK : ∀ w', MapAt P k w' b (n + 1) (putF f key val) → w.grownBy w' (some b) → w'.heap.size = w.heap.size → wpListIn F nF P ops Q rest (a.put o.dst undef) w') : wpListIn F nF P ops Q (o :: rest) a w := by
  refine wpListIn_plain hg fun K' hK' => ?_
  obtain ⟨w', hrun, r1, r2, r3⟩ := h.store K ht hk val
  unfold Oper.wpIn
  rcases hop with hop | hop <;>
  · refine ⟨by simp [Oper.about, hop], ?_⟩
    rw [Oper.semAt_plain F _ _ (by rw [hop]; intro c hc'; cases hc')]
    simp [execOp, hop, hm, hx, hv, hrun, Result.andThen]
    exact hK' _ _ (hK w' r1 r2 r3)
end
end Go.Proofs.YtomfnldlnoiloaaDoor
