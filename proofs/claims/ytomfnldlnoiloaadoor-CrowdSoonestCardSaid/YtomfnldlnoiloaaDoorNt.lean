/- The network in memory: the map, the rows of arcs, the arcs. -/
import Derived.Test.YtomfnldlnoiloaaDoorQu
import Derived.Test.YtomfnldlnoiloaaDoorKn
import Derived.Test.YtomfnldlnoiloaaDoorN9
namespace Go.Proofs.YtomfnldlnoiloaaDoor
set_option linter.unusedVariables false
set_option linter.unusedSimpArgs false
open Go Go.RowKit Go.Maps

structure Kt where
  a : Nat → Int
  b : Nat → Int
  c : Nat → Int
abbrev Kt.v (k : Kt) (x : Nat) : Value := kn (k.a x) (k.b x) (k.c x)
structure KtOk (k : Kt) (N : Nat) : Prop where
  inj : ∀ x y, x < N → y < N → k.v x = k.v y → x = y
  key : ∀ x, x < N → IsK Tryd.prog 89 (k.v x)
abbrev ptr (b : Nat) : Value := .pointer (some ⟨b, 0, none⟩)
structure Nt where
  b : Nat
  nm : Nat
  f : Value → Option Value
  rv : Nat → Value
  blk : Stp → Nat
def flipS (p : Stp) : Stp := (p.1, !p.2)
def arcV (k : Kt) (x : Nat) (left : Int) (bk : Nat) : List Value := [I (k.a x), I (k.b x), I (k.c x), I left, ptr bk]
structure NetAt (base top N m : Nat) (k : Kt) (to_ : Stp → Nat) (outs : Nat → List Stp) (left : Stp → Int) (d : Nt) (w : World) : Prop where
  map : MapAt Tryd.prog 89 w d.b d.nm d.f
  mb : base ≤ d.b ∧ d.b < top
  get : ∀ x, x < N → (d.f (k.v x)).getD (.slice none 0 0) = d.rv x
  row : ∀ x, x < N → w.ownsRow base 99 1 (d.rv x) (outs x).length ((outs x).map fun p => ptr (d.blk p))
  rtop : ∀ x, x < N → ∀ g, (d.rv x).ownBlock = some g → g < top
  rows : ∀ x y, x < N → y < N → ∀ g, (d.rv x).ownBlock = some g → (d.rv y).ownBlock = some g → x = y
  arc : ∀ p : Stp, p.1 < m → Box w (d.blk p) (arcV k (to_ p) (left p) (d.blk (flipS p)))
  ab : ∀ p : Stp, p.1 < m → base ≤ d.blk p ∧ d.blk p < top
  arcs : ∀ p q : Stp, p.1 < m → q.1 < m → d.blk p = d.blk q → p = q
  apart : ∀ (p : Stp) x g, p.1 < m → x < N → (d.rv x).ownBlock = some g → d.blk p ≠ g
  out : ∀ x, x < N → ∀ p, p ∈ outs x → p.1 < m
  tn : ∀ p : Stp, p.1 < m → to_ p < N
  top : top ≤ w.heap.size
variable {base top N m : Nat} {k : Kt} {to_ : Stp → Nat} {outs : Nat → List Stp} {left : Stp → Int} {d : Nt} {w w' : World}
theorem own_block {b n size : Nat} {e : TypeId} {v : Value} {xs : List Value} {g : Nat} (h : w.ownsRow b e size v n xs) (hg : v.ownBlock = some g) : b ≤ g ∧ ∃ cur, w.heap[g]? = some (.cells cur e (0, 0)) := by
  rcases h.2 with ⟨rfl, _⟩ | ⟨g', cap, cur, rfl, h1, h2, _⟩
  · cases hg
  · cases hg
    exact ⟨h1, cur, h2⟩
theorem box_cells {b : Nat} {v : Value} {vs : List Value} (h : Box w b (v :: vs)) : ∃ c e z, w.heap[b]? = some (.cells c e z) := by
  have h1 := (h.at_ 0 v rfl).1
  unfold World.cell? at h1
  cases ho : w.heap[b]? with
  | none => simp [ho] at h1
  | some o => cases o with
    | cells c e z => exact ⟨c, e, z, rfl⟩
    | _ => simp [ho] at h1
theorem MapAt.not_cells {b n : Nat} {f : Value → Option Value} {kk : TypeId} {P : Program} (h : MapAt P kk w b n f) {g : Nat} {c : Array Value} {e : TypeId} {z : Nat × Nat} (hg : w.heap[g]? = some (.cells c e z)) : b ≠ g := fun e1 => by
  subst e1
  obtain ⟨es, clock, h1, _⟩ := h
  rw [h1] at hg
  cases hg
theorem Box.block {b : Nat} {vs : List Value} (h : Box w b vs) (hb : w'.heap[b]? = w.heap[b]?) : Box w' b vs := by
  refine ⟨?_, fun k hk => ?_⟩
  · exact (Array.getElem?_eq_some_iff.1 (hb.trans (Array.getElem?_eq_getElem h.1))).1
  · exact ⟨(World.cell?_of_block hb).trans (h.2 k hk).1, (World.frozen?_of_block hb).trans (h.2 k hk).2⟩
theorem NetAt.keep (h : NetAt base top N m k to_ outs left d w) (hb : ∀ g, base ≤ g → g < top → w'.heap[g]? = w.heap[g]?) (hz : w.heap.size ≤ w'.heap.size) : NetAt base top N m k to_ outs left d w' where
  map := h.map.heap (hb _ h.mb.1 h.mb.2)
  mb := h.mb
  get := h.get
  row := fun x hx => own_at (h.row x hx) fun g hg => hb g (own_block (h.row x hx) hg).1 (h.rtop x hx g hg)
  rtop := h.rtop
  rows := h.rows
  arc := fun p hp => (h.arc p hp).block (hb _ (h.ab p hp).1 (h.ab p hp).2)
  ab := h.ab
  arcs := h.arcs
  apart := h.apart
  out := h.out
  tn := h.tn
  top := Nat.le_trans h.top hz
theorem NetAt.below {B : Nat} (h : NetAt base top N m k to_ outs left d w) (hB : Below B w w') (ht : top ≤ B) : NetAt base top N m k to_ outs left d w' := h.keep (fun g _ hg => hB.block g (by omega)) hB.size
theorem NetAt.alloc (h : NetAt base top N m k to_ outs left d w) (o : Obj) : NetAt base top N m k to_ outs left d (w.alloc o) := h.below ((Below.refl _ _).alloc (Nat.le_refl _) o) h.top
theorem NetAt.raise (h : NetAt base top N m k to_ outs left d w) {top' : Nat} (h1 : top ≤ top') (h2 : top' ≤ w.heap.size) : NetAt base top' N m k to_ outs left d w :=
  { h with mb := ⟨h.mb.1, by have := h.mb.2; omega⟩, rtop := fun x hx g hg => by have := h.rtop x hx g hg; omega, ab := fun p hp => ⟨(h.ab p hp).1, by have := (h.ab p hp).2; omega⟩, top := h2 }
theorem NetAt.congr (h : NetAt base top N m k to_ outs left d w) {to' : Stp → Nat} {outs' : Nat → List Stp} {left' : Stp → Int} (h1 : ∀ p : Stp, p.1 < m → to' p = to_ p) (h2 : ∀ x, x < N → outs' x = outs x) (h3 : ∀ p : Stp, p.1 < m → left' p = left p) : NetAt base top N m k to' outs' left' d w :=
  { h with row := fun x hx => by rw [h2 x hx]; exact h.row x hx, arc := fun p hp => by rw [h1 p hp, h3 p hp]; exact h.arc p hp, out := fun x hx p hp => h.out x hx p (by rw [← h2 x hx]; exact hp), tn := fun p hp => by rw [h1 p hp]; exact h.tn p hp }
theorem NetAt.none_arc (h : NetAt base top N m k to_ outs left d w) {p : Stp} (hp : p.1 < m) : ∃ c e z, w.heap[d.blk p]? = some (.cells c e z) := box_cells (h.arc p hp)
/-- How much more can go along one arc, set anew. -/
theorem NetAt.setLeft (h : NetAt base top N m k to_ outs left d w) {p : Stp} (hp : p.1 < m) (z : Int) : NetAt base top N m k to_ outs (fun q => if q = p then z else left q) d (w.setCell ⟨d.blk p, 3, none⟩ (I z)) where
  map := by
    obtain ⟨c, e, z', hc⟩ := h.none_arc hp
    exact h.map.setCell (fun e => h.map.not_cells hc e.symm) _
  mb := h.mb
  get := h.get
  row := fun x hx => own_at (h.row x hx) fun g hg => Below.heap_setCell w _ _ g fun e => h.apart p x g hp hx hg e.symm
  rtop := h.rtop
  rows := h.rows
  arc := fun q hq => by
    by_cases e : q = p
    · subst e
      rw [if_pos rfl]
      exact (h.arc q hq).set 3 (I z)
    · rw [if_neg e]
      exact (h.arc q hq).far (fun e2 => e (h.arcs _ _ hp hq e2).symm) _
  ab := h.ab
  arcs := h.arcs
  apart := h.apart
  out := h.out
  tn := h.tn
  top := by simp; exact h.top
/-- An arc more, and its way back: in no row yet. -/
theorem NetAt.arc2 (h : NetAt base top N m k to_ outs left d w) (hB : Below top w w') {bt bb : Nat} (h1 : top ≤ bt ∧ bt < bb ∧ bb < w'.heap.size) (hb : base ≤ top) {x y : Nat} (hx : x < N) (hy : y < N) {room : Int}
    (c1 : Box w' bt (arcV k y room bb)) (c2 : Box w' bb (arcV k x 0 bt)) :
    NetAt base w'.heap.size N (m + 1) k (fun p => if p.1 = m then (if p.2 then y else x) else to_ p) outs (fun p => if p.1 = m then (if p.2 then room else 0) else left p) { d with blk := fun p => if p.1 = m then (if p.2 then bt else bb) else d.blk p } w' := by
  have h' := h.below hB (Nat.le_refl _)
  have hz := hB.size
  have ho : ∀ x, x < N → ∀ p, p ∈ outs x → ¬ p.1 = m := fun x hx p hp => by have := h.out x hx p hp; omega
  refine ⟨h'.map, ⟨h.mb.1, by have := h.mb.2; dsimp only; omega⟩, h.get, fun z hz' => ?_, fun z hz' g hg => by have := h.rtop z hz' g hg; omega, h.rows, fun p hp => ?_, fun p hp => ?_, fun p q hp hq e => ?_, fun p z g hp hz' hg => ?_, fun z hz' p hp => by have := h.out z hz' p hp; omega, fun p hp => ?_, Nat.le_refl _⟩
  · have e : ((outs z).map fun p => ptr (if p.1 = m then (if p.2 then bt else bb) else d.blk p)) = (outs z).map fun p => ptr (d.blk p) := List.map_congr_left fun p hp => by rw [if_neg (ho z hz' p hp)]
    dsimp only
    rw [e]
    exact h'.row z hz'
  · obtain ⟨i, b⟩ := p
    by_cases e : i = m
    · subst e
      cases b
      · simpa [flipS] using c2
      · simpa [flipS] using c1
    · have := h'.arc (i, b) (by dsimp only at hp ⊢; omega)
      simpa [flipS, e] using this
  · obtain ⟨i, b⟩ := p
    by_cases e : i = m
    · subst e
      cases b <;> simp <;> omega
    · have := h.ab (i, b) (by dsimp only at hp ⊢; omega)
      simp [e]
      omega
  · obtain ⟨i, b⟩ := p
    obtain ⟨j, c⟩ := q
    dsimp only at hp hq e
    by_cases e1 : i = m
    · by_cases e2 : j = m
      · subst e1 e2
        cases b <;> cases c <;> simp at e ⊢ <;> omega
      · have := h.ab (j, c) (by dsimp only; omega)
        rw [if_pos e1, if_neg e2] at e
        cases b <;> simp at e <;> omega
    · by_cases e2 : j = m
      · have := h.ab (i, b) (by dsimp only; omega)
        rw [if_neg e1, if_pos e2] at e
        cases c <;> simp at e <;> omega
      · rw [if_neg e1, if_neg e2] at e
        exact h.arcs _ _ (by dsimp only; omega) (by dsimp only; omega) e
  · obtain ⟨i, b⟩ := p
    have hr := h.rtop z hz' g hg
    dsimp only
    by_cases e1 : i = m
    · rw [if_pos e1]
      cases b <;> simp <;> omega
    · rw [if_neg e1]
      exact h.apart (i, b) z g (by dsimp only at hp ⊢; omega) hz' hg
  · obtain ⟨i, b⟩ := p
    dsimp only
    by_cases e1 : i = m
    · rw [if_pos e1]
      cases b
      · exact hx
      · exact hy
    · rw [if_neg e1]
      exact h.tn _ (by dsimp only at hp ⊢; omega)
/-- A row by one longer: the entry of the map, the append, the store. -/
theorem NetAt.grow (h : NetAt base top N m k to_ outs left d w) (hk : KtOk k N) {x : Nat} (hx : x < N) {p : Stp} (hp : p.1 < m) {w1 w2 w3 : World} {nm' : Nat} {f1 : Value → Option Value} {v' : Value}
    (hf : f1 = putF d.f (k.v x) (d.rv x)) (g1 : w.grownBy w1 (some d.b)) (g2 : w1.grownBy w2 (d.rv x).ownBlock) (own : w2.ownsRow base 99 1 v' ((outs x).length + 1) ((outs x).map (fun p => ptr (d.blk p)) ++ [ptr (d.blk p)]))
    (hv : ∀ g, v'.ownBlock = some g → ((d.rv x).ownBlock = some g ∨ w1.heap.size ≤ g) ∧ g < w2.heap.size) (m3 : MapAt Tryd.prog 89 w3 d.b nm' (putF f1 (k.v x) v')) (g3 : w2.grownBy w3 (some d.b)) :
    NetAt base w3.heap.size N m k to_ (fun y => if y = x then outs x ++ [p] else outs y) left { d with nm := nm', f := putF f1 (k.v x) v', rv := fun y => if y = x then v' else d.rv y } w3 := by
  have z1 := g1.size
  have z2 := g2.size
  have z3 := g3.size
  have zt := h.top
  have hmr : ∀ y, y < N → ∀ g, (d.rv y).ownBlock = some g → g ≠ d.b := fun y hy g hg e => by
    obtain ⟨_, cur, hc⟩ := own_block (h.row y hy) hg
    exact h.map.not_cells hc e.symm
  have hst : ∀ g, g < top → g ≠ d.b → (d.rv x).ownBlock ≠ some g → w3.heap[g]? = w.heap[g]? := fun g hg hne hr => by
    rw [g3.block g (by omega) (fun e => hne (by cases e; rfl)), g2.block g (by omega) (fun e => hr e.symm), g1.block g (by omega) (fun e => hne (by cases e; rfl))]
  have hnv : v'.ownBlock ≠ some d.b := fun e => by
    rcases (hv _ e).1 with h1 | h1
    · exact hmr x hx _ h1 rfl
    · have := h.mb.2
      omega
  refine ⟨m3, ⟨h.mb.1, by have := h.mb.2; dsimp only; omega⟩, fun y hy => ?_, fun y hy => ?_, fun y hy g hg => ?_, fun y z hy hz g hg hg2 => ?_, fun q hq => ?_, fun q hq => ⟨(h.ab q hq).1, by have := (h.ab q hq).2; dsimp only; omega⟩, h.arcs, fun q y g hq hy hg => ?_, fun y hy q hq => ?_, h.tn, Nat.le_refl _⟩
  · dsimp only
    by_cases e : y = x
    · subst e
      rw [if_pos rfl, putF_same]
      rfl
    · have hne : k.v y ≠ k.v x := fun e2 => e (hk.inj _ _ hy hx e2)
      rw [if_neg e, putF_other hne, hf, putF_other hne]
      exact h.get y hy
  · dsimp only
    by_cases e : y = x
    · subst e
      rw [if_pos rfl, if_pos rfl, List.length_append, List.map_append]
      exact own_at own fun g hg => g3.block g (hv g hg).2 fun e => hnv (by rw [hg, e])
    · rw [if_neg e, if_neg e]
      exact own_at (h.row y hy) fun g hg => hst g (h.rtop y hy g hg) (hmr y hy g hg) fun e2 => e (h.rows _ _ hy hx g hg e2)
  · dsimp only at hg
    by_cases e : y = x
    · rw [if_pos e] at hg
      have := (hv g hg).2
      omega
    · rw [if_neg e] at hg
      have := h.rtop y hy g hg
      omega
  · dsimp only at hg hg2
    by_cases e1 : y = x
    · by_cases e2 : z = x
      · rw [e1, e2]
      · rw [if_pos e1] at hg
        rw [if_neg e2] at hg2
        rcases (hv g hg).1 with h1 | h1
        · exact absurd (h.rows _ _ hz hx g hg2 h1) e2
        · have := h.rtop z hz g hg2
          omega
    · rw [if_neg e1] at hg
      by_cases e2 : z = x
      · rw [if_pos e2] at hg2
        rcases (hv g hg2).1 with h1 | h1
        · exact absurd (h.rows _ _ hy hx g hg h1) e1
        · have := h.rtop y hy g hg
          omega
      · rw [if_neg e2] at hg2
        exact h.rows _ _ hy hz g hg hg2
  · refine (h.arc q hq).block (hst _ (h.ab q hq).2 (fun e => ?_) fun e => h.apart q x _ hq hx e rfl)
    obtain ⟨c, t, z, hc⟩ := h.none_arc hq
    exact h.map.not_cells hc e.symm
  · dsimp only at hg
    by_cases e : y = x
    · rw [if_pos e] at hg
      rcases (hv g hg).1 with h1 | h1
      · exact h.apart q x g hq hx h1
      · have := (h.ab q hq).2
        show d.blk q ≠ g
        omega
    · rw [if_neg e] at hg
      exact h.apart q y g hq hy hg
  · by_cases e : y = x
    · rw [if_pos e] at hq
      rcases List.mem_append.1 hq with h1 | h1
      · exact h.out x hx q h1
      · obtain rfl : q = p := by simpa using h1
        exact hp
    · rw [if_neg e] at hq
      exact h.out y hy q hq
/-- No arcs at all: an empty map. -/
theorem NetAt.new (w : World) (N : Nat) (k : Kt) (to_ : Stp → Nat) (left : Stp → Int) (hb : base ≤ w.heap.size) : NetAt base (w.heap.size + 1) N 0 k to_ (fun _ => []) left ⟨w.heap.size, 0, fun _ => none, fun _ => .slice none 0 0, fun _ => 0⟩ (w.alloc (.map #[] 0)) :=
  ⟨MapAt.new w _ _, ⟨hb, by simp⟩, fun _ _ => rfl, fun _ _ => World.ownsRow_nil _ _ _ _, fun _ _ g hg => (by cases hg), fun _ _ _ _ g hg => (by cases hg), fun p hp => absurd hp (by omega), fun p hp => absurd hp (by omega), fun p _ hp => absurd hp (by omega), fun p _ _ hp => absurd hp (by omega), fun _ _ p hp => (by cases hp), fun p hp => absurd hp (by omega), by simp⟩
/-- The two globals. -/
structure GlobOk (w : World) : Prop where
  z : 2 ≤ w.heap.size
  s : w.cell? ⟨0, 0, none⟩ = some (I 0) ∧ w.cell? ⟨0, 1, none⟩ = some (I 0) ∧ w.cell? ⟨0, 2, none⟩ = some (I 1)
  t : w.cell? ⟨1, 0, none⟩ = some (I 0) ∧ w.cell? ⟨1, 1, none⟩ = some (I 0) ∧ w.cell? ⟨1, 2, none⟩ = some (I 2)
theorem GlobOk.below {B : Nat} (h : GlobOk w) (hB : Below B w w') (h2 : 2 ≤ B) : GlobOk w' := by
  have hc : ∀ b o, b < 2 → w'.cell? ⟨b, o, none⟩ = w.cell? ⟨b, o, none⟩ := fun b o hb => hB.cell (p := ⟨b, o, none⟩) (by show b < B; omega)
  refine ⟨Nat.le_trans h.z hB.size, ⟨?_, ?_, ?_⟩, ⟨?_, ?_, ?_⟩⟩
  · rw [hc 0 0 (by omega)]; exact h.s.1
  · rw [hc 0 1 (by omega)]; exact h.s.2.1
  · rw [hc 0 2 (by omega)]; exact h.s.2.2
  · rw [hc 1 0 (by omega)]; exact h.t.1
  · rw [hc 1 1 (by omega)]; exact h.t.2.1
  · rw [hc 1 2 (by omega)]; exact h.t.2.2
end Go.Proofs.YtomfnldlnoiloaaDoor
