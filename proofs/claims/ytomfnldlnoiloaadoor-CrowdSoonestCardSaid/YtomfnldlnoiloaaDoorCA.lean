/- CrowdMore: things that lie apart in memory; the copy of a visit (closure 23). -/
import Derived.Test.YtomfnldlnoiloaaDoorF4
import Derived.Test.YtomfnldlnoiloaaDoorTh
import Derived.Test.YtomfnldlnoiloaaDoorV4
namespace Go.Proofs.YtomfnldlnoiloaaDoor
set_option linter.unusedVariables false
set_option linter.unusedSimpArgs false
open Go Go.RowKit Go.Maps

def updT {α : Type} (f : Nat → α) (k : Nat) (a : α) : Nat → α := fun j => if j = k then a else f j
theorem updT_same {α : Type} (f : Nat → α) (k : Nat) (a : α) : updT f k a k = a := by simp [updT]
theorem updT_other {α : Type} (f : Nat → α) {k j : Nat} (a : α) (h : j ≠ k) : updT f k a j = f j := by simp [updT, h]
/-- P looks only at the blocks of S. -/
def Loc (S : Nat → Prop) (P : World → Prop) : Prop := ∀ W W', (∀ g, S g → W'.heap[g]? = W.heap[g]?) → W.heap.size ≤ W'.heap.size → P W → P W'
/-- Things that lie apart: each one in its own blocks. -/
structure Thg (N : Nat) (w4 : World) (don : Nat → Bool) (S : Nat → Nat → Prop) (P : Nat → World → Prop) (W : World) : Prop where
  low : Below N w4 W
  size : N ≤ W.heap.size
  ins : ∀ i, don i = true → ∀ g, S i g → N ≤ g ∧ g < W.heap.size
  holds : ∀ i, don i = true → P i W
  apart : ∀ i j, i ≠ j → don i = true → don j = true → ∀ g, S i g → ¬ S j g
  loc : ∀ i, don i = true → Loc (S i) (P i)
section
variable {N : Nat} {w4 W W' : World} {don : Nat → Bool} {S : Nat → Nat → Prop} {P : Nat → World → Prop}
theorem Thg.start (hN : N ≤ w4.heap.size) (S : Nat → Nat → Prop) (P : Nat → World → Prop) {don : Nat → Bool} (hd : ∀ i, don i = false) : Thg N w4 don S P w4.drew :=
  ⟨(Below.refl _ _).drew, hN, fun i h => (by rw [hd] at h; cases h), fun i h => (by rw [hd] at h; cases h), fun i j _ h => (by rw [hd] at h; cases h), fun i h => (by rw [hd] at h; cases h)⟩
/-- Thing k is made anew or turned. -/
theorem Thg.turn (h : Thg N w4 don S P W) (k : Nat) (hF : Frm W.heap.size (fun g => don k = true ∧ S k g) W W') (S' : Nat → Prop) (P' : World → Prop)
    (hS : ∀ g, S' g → (don k = true ∧ S k g) ∨ (W.heap.size ≤ g ∧ g < W'.heap.size)) (hP : P' W') (hl : Loc S' P') : Thg N w4 (fun j => j == k || don j) (updT S k S') (updT P k P') W' := by
  have hd : ∀ j, j ≠ k → (j == k || don j) = true → don j = true := fun j e h => by simpa [e] using h
  have hz := h.size
  have hz2 := hF.size
  refine ⟨h.low.trans (hF.below hz (fun g hg hs => by have := (h.ins k hs.1 g hs.2).1; omega)), by omega, fun i hi g hg => ?_, fun i hi => ?_, fun i j hij hi hj g hg hg' => ?_, fun i hi => ?_⟩
  · by_cases e : i = k
    · subst e
      rw [updT_same] at hg
      rcases hS g hg with ⟨h1, h2⟩ | h1
      · have := h.ins i h1 g h2; omega
      · omega
    · rw [updT_other _ _ e] at hg
      have := h.ins i (hd i e hi) g hg; omega
  · by_cases e : i = k
    · subst e; rw [updT_same]; exact hP
    · rw [updT_other _ _ e]
      refine h.loc i (hd i e hi) W W' (fun g hg => hF.block g (h.ins i (hd i e hi) g hg).2 (fun hs => h.apart i k e (hd i e hi) hs.1 g hg hs.2)) hz2 (h.holds i (hd i e hi))
  · have key : ∀ j, j ≠ k → (j == k || don j) = true → S' g → S j g → False := fun j e hj h1 h2 => by
      rcases hS g h1 with ⟨h3, h4⟩ | h3
      · exact h.apart k j (Ne.symm e) h3 (hd j e hj) g h4 h2
      · have := (h.ins j (hd j e hj) g h2).2; omega
    by_cases e1 : i = k
    · have e2 : j ≠ k := fun e => hij (e1.trans e.symm)
      subst e1
      rw [updT_same] at hg
      rw [updT_other _ _ e2] at hg'
      exact key j e2 hj hg hg'
    · rw [updT_other _ _ e1] at hg
      by_cases e2 : j = k
      · subst e2
        rw [updT_same] at hg'
        exact key i e1 hi hg' hg
      · rw [updT_other _ _ e2] at hg'
        exact h.apart i j hij (hd i e1 hi) (hd j e2 hj) g hg hg'
  · by_cases e : i = k
    · subst e; rw [updT_same, updT_same]; exact hl
    · rw [updT_other _ _ e, updT_other _ _ e]; exact h.loc i (hd i e hi)
theorem Thg.later (h : Thg N w4 don S P W) (hB : Below W.heap.size W W') : Thg N w4 don S P W' := by
  have hz := h.size
  have hz2 := hB.size
  refine ⟨h.low.trans (hB.mono hz), by omega, fun i hi g hg => ?_, fun i hi => ?_, h.apart, h.loc⟩
  · have := h.ins i hi g hg; omega
  · exact h.loc i hi W W' (fun g hg => hB.block g (h.ins i hi g hg).2) hz2 (h.holds i hi)
theorem Thg.congr {don' : Nat → Bool} (h : Thg N w4 don S P W) (hd : ∀ i, don' i = true → don i = true) : Thg N w4 don' S P W :=
  ⟨h.low, h.size, fun i hi => h.ins i (hd i hi), fun i hi => h.holds i (hd i hi), fun i j e hi hj => h.apart i j e (hd i hi) (hd j hj), fun i hi => h.loc i (hd i hi)⟩
end

/-- The rows of a copy. -/
structure Rows3 (N : Nat) (v : Vis) (A1 A2 A3 : Option Addr) (c1 c2 c3 : Nat) (W : World) : Prop where
  r1 : W.ownsRow N 3 1 (.slice A1 v.rm.length c1) v.rm.length (v.rm.map I)
  r2 : W.ownsRow N 51 4 (.slice A2 v.tr.length c2) v.tr.length (flat4 v.tr)
  r3 : W.ownsRow N 49 3 (.slice A3 v.ar.length c3) v.ar.length (flat3 v.ar)
/-- The blocks of a copy. -/
def Blk3 (A1 A2 A3 : Option Addr) : Nat → Prop := fun g => (∃ a, A1 = some a ∧ a.block = g) ∨ (∃ a, A2 = some a ∧ a.block = g) ∨ (∃ a, A3 = some a ∧ a.block = g)
theorem own_blk {A : Option Addr} {n c g : Nat} (h : (Value.slice A n c).ownBlock = some g) : ∃ a, A = some a ∧ a.block = g := by
  cases A with
  | none => cases h
  | some a => exact ⟨a, rfl, by simpa [Value.ownBlock] using h⟩
theorem blk_own {A : Option Addr} {n c g : Nat} (h : ∃ a, A = some a ∧ a.block = g) : (Value.slice A n c).ownBlock = some g := by
  obtain ⟨a, rfl, rfl⟩ := h
  rfl
theorem Rows3.loc {N : Nat} {v : Vis} {A1 A2 A3 : Option Addr} {c1 c2 c3 : Nat} : Loc (Blk3 A1 A2 A3) (Rows3 N v A1 A2 A3 c1 c2 c3) := fun W W' hk _ h =>
  ⟨own_at h.r1 fun g hg => hk g (.inl (own_blk hg)), own_at h.r2 fun g hg => hk g (.inr (.inl (own_blk hg))), own_at h.r3 fun g hg => hk g (.inr (.inr (own_blk hg)))⟩
theorem Rows3.ins {N : Nat} {v : Vis} {A1 A2 A3 : Option Addr} {c1 c2 c3 : Nat} {W : World} (h : Rows3 N v A1 A2 A3 c1 c2 c3 W) (g : Nat) (hg : Blk3 A1 A2 A3 g) : N ≤ g ∧ g < W.heap.size := by
  rcases hg with hg | hg | hg
  · exact h.r1.lt g (blk_own hg)
  · exact h.r2.lt g (blk_own hg)
  · exact h.r3.lt g (blk_own hg)
theorem own4_form {W : World} {base n c : Nat} {A : Option Addr} {xs : List Value} {e : TypeId} {size : Nat} (h : W.ownsRow base e size (.slice A n c) n xs) (hn : 0 < n) : ∃ g, A = some ⟨g, 0, none⟩ ∧ base ≤ g ∧ g < W.heap.size := by
  rcases own_formS h with ⟨h1, h2⟩ | ⟨g, cap, h1, h2, h3⟩
  · omega
  · injection h1 with hA _ _
    exact ⟨g, hA, h2, h3⟩
theorem Rows3.vis {N : Nat} {v : Vis} {A1 A2 A3 : Option Addr} {c1 c2 c3 : Nat} {W : World} (h : Rows3 N v A1 A2 A3 c1 c2 c3 W) : VisAt W W.heap.size v A1 A2 A3 := by
  refine ⟨fun h0 => ?_, fun h0 => ?_, fun h0 => ?_⟩
  · obtain ⟨g, rfl, _⟩ := own4_form h.r1 h0
    exact ints_own h.r1 h0
  · obtain ⟨g, rfl, _⟩ := own4_form h.r2 h0
    exact fours_own h.r2 h0
  · obtain ⟨A, c, e, h3⟩ := threes_own h.r3 rfl
    injection e with e1 _ _
    rw [e1]
    exact h3 h0
theorem own_ne {W : World} {N N' n n' size size' : Nat} {e e' : TypeId} {v v' : Value} {xs xs' : List Value} (h : W.ownsRow N e size v n xs) (h' : W.ownsRow N' e' size' v' n' xs') (hne : e ≠ e') : v.ownBlock = none ∨ v.ownBlock ≠ v'.ownBlock := by
  cases hb : v.ownBlock with
  | none => exact .inl rfl
  | some g =>
    right
    intro h2
    obtain ⟨_, c, k1⟩ := own_block h hb
    obtain ⟨_, c', k2⟩ := own_block h' h2.symm
    rw [k1] at k2
    injection k2 with k2
    injection k2 with _ k2 _
    exact hne k2
theorem own_base {W : World} {N N' n size : Nat} {e : TypeId} {v : Value} {xs : List Value} (h : W.ownsRow N e size v n xs) (hN : N' ≤ N) : W.ownsRow N' e size v n xs := by
  refine ⟨h.1, ?_⟩
  rcases h.2 with h1 | ⟨g, cap, cur, h1, h2, h3⟩
  · exact .inl h1
  · exact .inr ⟨g, cap, cur, h1, Nat.le_trans hN h2, h3⟩
theorem info51 : (Tryd.prog.info? 51).map (fun i => (i.zero, i.size, i.bytes)) = some (some (.agg #[I 0, I 0, I 0, I 0]), 4, 32) := by kernel_rfl
theorem info49 : (Tryd.prog.info? 49).map (fun i => (i.zero, i.size, i.bytes)) = some (some (.agg #[I 0, I 0, I 0]), 3, 24) := by kernel_rfl

/-- One of closure 23's three tracks: an empty row is made (l0), field k's address is taken (l1), its row is loaded (l2), appended (l3), the address again (l4), the row stored (l5). -/
structure Trk (N b : Nat) (e : TypeId) (sz : Nat) (hd : Value) (n : Nat) (cs : List Value) (k : Nat) (l0 l1 l2 l3 l4 l5 : Bool) (v0 v1 v2 v3 v4 : Value) (W : World) : Prop where
  own : l0 = true → l3 = false → W.ownsRow N e sz v0 0 []
  fa : l1 = true → v1 = .pointer (some ⟨b, k, none⟩)
  ld : l2 = true → v2 = hd
  app : l3 = true → W.ownsRow N e sz v3 n cs
  fb : l4 = true → v4 = .pointer (some ⟨b, k, none⟩)
  cell : W.cell? ⟨b, k, none⟩ = some (if l5 = true then v3 else hd) ∧ W.frozen? ⟨b, k, none⟩ = false
  ord : (l3 = true → l0 = true ∧ l2 = true) ∧ (l5 = true → l3 = true)
section
variable {N b : Nat} {e : TypeId} {sz : Nat} {hd : Value} {n : Nat} {cs : List Value} {k : Nat} {l0 l1 l2 l3 l4 l5 : Bool} {v0 v1 v2 v3 v4 : Value} {W W' : World}
theorem Trk.keep (h : Trk N b e sz hd n cs k l0 l1 l2 l3 l4 l5 v0 v1 v2 v3 v4 W) (hb : W'.heap[b]? = W.heap[b]?) (ho : ∀ v m xs, W.ownsRow N e sz v m xs → W'.ownsRow N e sz v m xs) : Trk N b e sz hd n cs k l0 l1 l2 l3 l4 l5 v0 v1 v2 v3 v4 W' :=
  ⟨fun h0 h3 => ho _ _ _ (h.own h0 h3), h.fa, h.ld, fun h3 => ho _ _ _ (h.app h3), h.fb, ⟨(World.cell?_of_block hb).trans h.cell.1, (World.frozen?_of_block hb).trans h.cell.2⟩, h.ord⟩
theorem Trk.alloc (h : Trk N b e sz hd n cs k l0 l1 l2 l3 l4 l5 v0 v1 v2 v3 v4 W) (hb : b < W.heap.size) (o : Obj) : Trk N b e sz hd n cs k l0 l1 l2 l3 l4 l5 v0 v1 v2 v3 v4 (W.alloc o) :=
  h.keep ((below1 W o).block b hb) fun _ _ _ ho => ho.alloc o
/-- Another track's row grows. -/
theorem Trk.grown {e' : TypeId} {sz' : Nat} {v' : Value} {xs' : List Value} {n' : Nat} (h : Trk N b e sz hd n cs k l0 l1 l2 l3 l4 l5 v0 v1 v2 v3 v4 W) (hb : b < W.heap.size) (hbN : b < N) (ho : W.ownsRow N e' sz' v' n' xs') (hne : e ≠ e') (hg : W.grownBy W' v'.ownBlock) :
    Trk N b e sz hd n cs k l0 l1 l2 l3 l4 l5 v0 v1 v2 v3 v4 W' :=
  h.keep (hg.block b hb (fun e2 => by have := (ho.lt b e2.symm).1; omega)) fun _ _ _ h2 => h2.kept hg (own_ne h2 ho hne)
/-- Another field is stored. -/
theorem Trk.stored {k' : Nat} (h : Trk N b e sz hd n cs k l0 l1 l2 l3 l4 l5 v0 v1 v2 v3 v4 W) (hbN : b < N) (hk : k' ≠ k) (u : Value) : Trk N b e sz hd n cs k l0 l1 l2 l3 l4 l5 v0 v1 v2 v3 v4 (W.setCell ⟨b, k', none⟩ u) :=
  have hown : ∀ v m xs, W.ownsRow N e sz v m xs → (W.setCell ⟨b, k', none⟩ u).ownsRow N e sz v m xs := fun v m xs h2 => own_at h2 fun g hg => Below.heap_setCell _ _ _ _ (by intro e2; have := (h2.lt g hg).1; first | omega | (simp at e2; omega))
  ⟨fun h0 h3 => hown _ _ _ (h.own h0 h3), h.fa, h.ld, fun h3 => hown _ _ _ (h.app h3), h.fb, ⟨(World.cell?_setCell_other _ _ _ _ (fun e => hk (by cases e; rfl))).trans h.cell.1, by rw [World.frozen?_setCell]; exact h.cell.2⟩, h.ord⟩
/-- This field is stored. -/
theorem Trk.store (h : Trk N b e sz hd n cs k l0 l1 l2 l3 l4 l5 v0 v1 v2 v3 v4 W) (hbN : b < N) (hl3 : l3 = true) : Trk N b e sz hd n cs k l0 l1 l2 l3 l4 true v0 v1 v2 v3 v4 (W.setCell ⟨b, k, none⟩ v3) :=
  have hown : ∀ v m xs, W.ownsRow N e sz v m xs → (W.setCell ⟨b, k, none⟩ v3).ownsRow N e sz v m xs := fun v m xs h2 => own_at h2 fun g hg => Below.heap_setCell _ _ _ _ (by intro e2; have := (h2.lt g hg).1; first | omega | (simp at e2; omega))
  ⟨fun h0 h3 => hown _ _ _ (h.own h0 h3), h.fa, h.ld, fun h3 => hown _ _ _ (h.app h3), h.fb, ⟨by rw [if_pos rfl]; exact World.cell?_setCell_same _ _ _ h.cell.1, by rw [World.frozen?_setCell]; exact h.cell.2⟩, h.ord.1, fun _ => hl3⟩
theorem Trk.late (h : Trk N b e sz hd n cs k l0 l1 l2 l3 l4 l5 v0 v1 v2 v3 v4 W) (hl : l2 = false ∨ l3 = false) : l5 = false := by
  cases e5 : l5 with
  | false => rfl
  | true =>
    have h3 := h.ord.2 e5
    have h2 := (h.ord.1 h3).2
    rcases hl with hl | hl
    · rw [hl] at h2; cases h2
    · rw [hl] at h3; cases h3
theorem Trk.bs (h : Trk N b e sz hd n cs k l0 l1 l2 l3 l4 l5 v0 v1 v2 v3 v4 W) (hl : l0 = false) (hN : N ≤ W.heap.size) (hb : b < W.heap.size) (hz : sz = sz) : Trk N b e sz hd n cs k true l1 l2 l3 l4 l5 (.slice (some ⟨W.heap.size, 0, none⟩) 0 0) v1 v2 v3 v4 (W.alloc (.cells #[] e)) := by
  have h' := h.alloc hb (.cells #[] e)
  have h3 : l3 = false := by
    cases e3 : l3 with
    | false => rfl
    | true => have := (h.ord.1 e3).1; rw [hl] at this; cases this
  exact ⟨fun _ _ => World.ownsRow_made W #[] 0 hN (Nat.zero_le _) (by simp), h'.fa, h'.ld, h'.app, h'.fb, h'.cell, fun e3 => (by rw [h3] at e3; cases e3), h.ord.2⟩
theorem Trk.addr (h : Trk N b e sz hd n cs k l0 l1 l2 l3 l4 l5 v0 v1 v2 v3 v4 W) : Trk N b e sz hd n cs k l0 true l2 l3 l4 l5 v0 (.pointer (some ⟨b, k, none⟩)) v2 v3 v4 W :=
  ⟨h.own, fun _ => rfl, h.ld, h.app, h.fb, h.cell, h.ord⟩
theorem Trk.load (h : Trk N b e sz hd n cs k l0 l1 l2 l3 l4 l5 v0 v1 v2 v3 v4 W) : Trk N b e sz hd n cs k l0 l1 true l3 l4 l5 v0 v1 hd v3 v4 W :=
  ⟨h.own, h.fa, fun _ => rfl, h.app, h.fb, h.cell, fun e => ⟨(h.ord.1 e).1, rfl⟩, h.ord.2⟩
theorem Trk.addr2 (h : Trk N b e sz hd n cs k l0 l1 l2 l3 l4 l5 v0 v1 v2 v3 v4 W) : Trk N b e sz hd n cs k l0 l1 l2 l3 true l5 v0 v1 v2 v3 (.pointer (some ⟨b, k, none⟩)) W :=
  ⟨h.own, h.fa, h.ld, h.app, fun _ => rfl, h.cell, h.ord⟩
theorem Trk.append (h : Trk N b e sz hd n cs k l0 l1 l2 l3 l4 false v0 v1 v2 v3 v4 W) (hl0 : l0 = true) (hl2 : l2 = true) (hl : l3 = false) (hb : b < W.heap.size) (hbN : b < N) {v' : Value} (ho : W'.ownsRow N e sz v' n cs) (hg : W.grownBy W' v0.ownBlock) :
    Trk N b e sz hd n cs k l0 l1 l2 true l4 false v0 v1 v2 v' v4 W' :=
  have hb' := hg.block b hb (fun e2 => by have := ((h.own hl0 hl).lt b e2.symm).1; omega)
  ⟨fun _ h3 => (by cases h3), h.fa, h.ld, fun _ => ho, h.fb, ⟨(World.cell?_of_block hb').trans h.cell.1, (World.frozen?_of_block hb').trans h.cell.2⟩, fun _ => ⟨hl0, hl2⟩, fun e => (by cases e)⟩
end
end Go.Proofs.YtomfnldlnoiloaaDoor

/- CrowdMore: four copies of a visit, in whatever order they are made; a copy that is turned. -/
namespace Go.Proofs.YtomfnldlnoiloaaDoor
set_option linter.unusedVariables false
set_option linter.unusedSimpArgs false
open Go Go.RowKit Go.Maps

theorem orNe {l : Nat → Bool} {j t : Nat} (h : j ≠ t) : (j == t || l j) = l j := by simp [h]
theorem vNe {val : Nat → Value} {a : Value} {j t : Nat} (h : j ≠ t) : (if j = t then a else val j) = val j := if_neg h
theorem Box.loc {g : Nat} {vs : List Value} : Loc (fun x => x = g) (fun W => Box W g vs) := fun W W' hk hz h =>
  ⟨Nat.lt_of_lt_of_le h.1 hz, fun k hk' => by
    have := h.2 k hk'
    exact ⟨(World.cell?_of_block (hk g rfl)).trans this.1, (World.frozen?_of_block (hk g rfl)).trans this.2⟩⟩
def hdr : Value → List Value
  | .agg a => a.toList
  | _ => []
def zro : List Value := [.slice none 0 0, .slice none 0 0, .slice none 0 0]
def don9 (l : Nat → Bool) (i : Nat) : Bool := if i < 4 then l (3 * i + 2) else if i < 8 then l (i + 8) else false
/-- Things 0 .. 3 are the copies' rows, things 4 .. 7 their boxes. -/
def Th9 (N : Nat) (w8 : World) (v : Vis) (l : Nat → Bool) (val : Nat → Value) (W : World) : Prop :=
  ∃ S P, Thg N w8 (don9 l) S P W ∧
    (∀ i, i < 4 → l (3 * i + 2) = true → ∃ B1 B2 B3 c1 c2 c3, val (3 * i + 2) = visV v B1 B2 B3 c1 c2 c3 ∧ S i = Blk3 B1 B2 B3 ∧ P i = Rows3 N v B1 B2 B3 c1 c2 c3) ∧
    (∀ i, i < 4 → l (12 + i) = true → ∃ g, val (12 + i) = .pointer (some ⟨g, 0, none⟩) ∧ S (4 + i) = (fun x => x = g) ∧ P (4 + i) = fun W => Box W g (cond (l (16 + i)) (hdr (val (3 * i + 2))) zro))
structure J9 (N : Nat) (w8 : World) (v : Vis) (hv fn : Value) (l : Nat → Bool) (val : Nat → Value) (W : World) : Prop where
  mv : ∀ i, i < 4 → l (3 * i) = true → val (3 * i) = fn
  ld : ∀ i, i < 4 → l (3 * i + 1) = true → val (3 * i + 1) = hv
  ord : ∀ i, i < 4 → l (16 + i) = true → l (12 + i) = true ∧ l (3 * i + 2) = true
  th : Th9 N w8 v l val W
section
variable {N : Nat} {w8 : World} {v : Vis} {hv fn : Value} {l : Nat → Bool} {val : Nat → Value} {W : World}
theorem J9.start (hN : N ≤ w8.heap.size) : J9 N w8 v hv fn (fun _ => false) (fun _ => undef) w8.drew :=
  ⟨fun _ _ h => (by cases h), fun _ _ h => (by cases h), fun _ _ h => (by cases h), fun _ _ => False, fun _ _ => True, Thg.start hN _ _ (fun i => by unfold don9; split; rfl; split <;> rfl), fun _ _ h => (by cases h), fun _ _ h => (by cases h)⟩
theorem J9.low (h : J9 N w8 v hv fn l val W) : Below N w8 W := by
  obtain ⟨S, P, hT, _⟩ := h.th
  exact hT.low
theorem J9.size (h : J9 N w8 v hv fn l val W) : N ≤ W.heap.size := by
  obtain ⟨S, P, hT, _⟩ := h.th
  exact hT.size
theorem Th9.keep (h : Th9 N w8 v l val W) {t : Nat} (a : Value) (ht : ∀ i, i < 4 → 3 * i + 2 ≠ t ∧ 12 + i ≠ t ∧ 16 + i ≠ t) : Th9 N w8 v (fun j => j == t || l j) (fun j => if j = t then a else val j) W := by
  obtain ⟨S, P, hT, h1, h2⟩ := h
  refine ⟨S, P, hT.congr fun i hi => ?_, fun i hi hl => ?_, fun i hi hl => ?_⟩
  · unfold don9 at hi ⊢
    split at hi
    · rename_i h4
      try dsimp only at hi
      rw [orNe (ht i h4).1] at hi
      rw [if_pos h4]; exact hi
    · rename_i h4
      rw [if_neg h4]
      split at hi
      · rename_i h8
        try dsimp only at hi
        rw [orNe (by have := (ht (i - 4) (by omega)).2.1; omega)] at hi
        rw [if_pos h8]; exact hi
      · cases hi
  · obtain ⟨n1, n2, n3⟩ := ht i hi
    try dsimp only at hl
    rw [orNe n1] at hl
    try dsimp only
    rw [vNe n1]
    exact h1 i hi hl
  · obtain ⟨n1, n2, n3⟩ := ht i hi
    try dsimp only at hl
    rw [orNe n2] at hl
    try dsimp only
    rw [vNe n2, vNe n1, orNe n3]
    exact h2 i hi hl
theorem J9.mov (h : J9 N w8 v hv fn l val W) (i0 : Nat) (h0 : i0 < 4) : J9 N w8 v hv fn (fun j => j == 3 * i0 || l j) (fun j => if j = 3 * i0 then fn else val j) W := by
  refine ⟨fun i hi hl => ?_, fun i hi hl => ?_, fun i hi hl => ?_, h.th.keep _ fun i hi => by omega⟩
  · by_cases e : 3 * i = 3 * i0
    · try dsimp only
      rw [if_pos e]
    · try dsimp only at hl
      rw [orNe e] at hl
      try dsimp only
      rw [vNe e]
      exact h.mv i hi hl
  · try dsimp only at hl
    rw [orNe (by omega)] at hl
    try dsimp only
    rw [vNe (by omega)]
    exact h.ld i hi hl
  · try dsimp only at hl
    rw [orNe (by omega)] at hl
    try dsimp only
    rw [orNe (by omega), orNe (by omega)]
    exact h.ord i hi hl
theorem J9.load (h : J9 N w8 v hv fn l val W) (i0 : Nat) (h0 : i0 < 4) : J9 N w8 v hv fn (fun j => j == 3 * i0 + 1 || l j) (fun j => if j = 3 * i0 + 1 then hv else val j) W := by
  refine ⟨fun i hi hl => ?_, fun i hi hl => ?_, fun i hi hl => ?_, h.th.keep _ fun i hi => by omega⟩
  · try dsimp only at hl
    rw [orNe (by omega)] at hl
    try dsimp only
    rw [vNe (by omega)]
    exact h.mv i hi hl
  · by_cases e : 3 * i + 1 = 3 * i0 + 1
    · try dsimp only
      rw [if_pos e]
    · try dsimp only at hl
      rw [orNe e] at hl
      try dsimp only
      rw [vNe e]
      exact h.ld i hi hl
  · try dsimp only at hl
    rw [orNe (by omega)] at hl
    try dsimp only
    rw [orNe (by omega), orNe (by omega)]
    exact h.ord i hi hl
theorem J9.call (h : J9 N w8 v hv fn l val W) (i0 : Nat) (h0 : i0 < 4) (hli : l (3 * i0 + 2) = false) {B1 B2 B3 : Option Addr} {c1 c2 c3 : Nat} {W' : World} (hR : Rows3 W.heap.size v B1 B2 B3 c1 c2 c3 W') (hB : Below W.heap.size W W') :
    J9 N w8 v hv fn (fun j => j == 3 * i0 + 2 || l j) (fun j => if j = 3 * i0 + 2 then visV v B1 B2 B3 c1 c2 c3 else val j) W' := by
  have hs : l (16 + i0) = false := by
    cases e : l (16 + i0) with
    | false => rfl
    | true => have := (h.ord i0 h0 e).2; rw [hli] at this; cases this
  have hN := h.size
  refine ⟨fun i hi hl => ?_, fun i hi hl => ?_, fun i hi hl => ?_, ?_⟩
  · try dsimp only at hl
    rw [orNe (by omega)] at hl
    try dsimp only
    rw [vNe (by omega)]
    exact h.mv i hi hl
  · try dsimp only at hl
    rw [orNe (by omega)] at hl
    try dsimp only
    rw [vNe (by omega)]
    exact h.ld i hi hl
  · try dsimp only at hl
    rw [orNe (by omega)] at hl
    have := h.ord i hi hl
    try dsimp only
    rw [orNe (by omega)]
    exact ⟨this.1, by rw [this.2]; simp⟩
  · obtain ⟨S, P, hT, h1, h2⟩ := h.th
    refine ⟨_, _, (hT.turn i0 (Frm.of_below hB (Nat.le_refl _)) (Blk3 B1 B2 B3) (Rows3 N v B1 B2 B3 c1 c2 c3) (fun g hg => .inr (hR.ins g hg)) ⟨own_base hR.r1 hN, own_base hR.r2 hN, own_base hR.r3 hN⟩ Rows3.loc).congr fun i hi => ?_, fun i hi hl => ?_, fun i hi hl => ?_⟩
    · by_cases e : i = i0
      · simp [e]
      · simp only [e, beq_iff_eq, Bool.or_eq_true, false_or, beq_eq_false_iff_ne]
        unfold don9 at hi ⊢
        split at hi
        · rename_i h4
          try dsimp only at hi
          rw [orNe (by omega)] at hi
          rw [if_pos h4]; exact hi
        · rename_i h4
          rw [if_neg h4]
          split at hi
          · rename_i h8
            try dsimp only at hi
            rw [orNe (by omega)] at hi
            rw [if_pos h8]; exact hi
          · cases hi
    · by_cases e : i = i0
      · subst e
        try dsimp only
        rw [if_pos rfl, updT_same, updT_same]
        exact ⟨B1, B2, B3, c1, c2, c3, rfl, rfl, rfl⟩
      · try dsimp only at hl
        rw [orNe (by omega)] at hl
        try dsimp only
        rw [vNe (by omega), updT_other _ _ e, updT_other _ _ e]
        exact h1 i hi hl
    · try dsimp only at hl
      rw [orNe (by omega)] at hl
      try dsimp only
      rw [vNe (by omega), updT_other _ _ (by omega), updT_other _ _ (by omega), orNe (by omega)]
      by_cases e : i = i0
      · subst e
        have h3 := h2 i hi hl
        rw [hs] at h3 ⊢
        exact h3
      · try dsimp only
        rw [vNe (by omega)]
        exact h2 i hi hl
theorem J9.alloc (h : J9 N w8 v hv fn l val W) (i0 : Nat) (h0 : i0 < 4) (hli : l (12 + i0) = false) (ty : TypeId) :
    J9 N w8 v hv fn (fun j => j == 12 + i0 || l j) (fun j => if j = 12 + i0 then .pointer (some ⟨W.heap.size, 0, none⟩) else val j) (W.alloc (.cells zro.toArray ty)) := by
  have hs : l (16 + i0) = false := by
    cases e : l (16 + i0) with
    | false => rfl
    | true => have := (h.ord i0 h0 e).1; rw [hli] at this; cases this
  have hN := h.size
  refine ⟨fun i hi hl => ?_, fun i hi hl => ?_, fun i hi hl => ?_, ?_⟩
  · try dsimp only at hl
    rw [orNe (by omega)] at hl
    try dsimp only
    rw [vNe (by omega)]
    exact h.mv i hi hl
  · try dsimp only at hl
    rw [orNe (by omega)] at hl
    try dsimp only
    rw [vNe (by omega)]
    exact h.ld i hi hl
  · try dsimp only at hl
    rw [orNe (by omega)] at hl
    have := h.ord i hi hl
    refine ⟨by rw [this.1]; simp, ?_⟩
    try dsimp only
    rw [orNe (by omega)]
    exact this.2
  · obtain ⟨S, P, hT, h1, h2⟩ := h.th
    refine ⟨_, _, (hT.turn (4 + i0) (Frm.of_below (below1 W _) (Nat.le_refl _)) (fun x => x = W.heap.size) (fun V => Box V W.heap.size zro) (fun g hg => .inr (by subst hg; simp)) (Box.new W zro ty) Box.loc).congr fun i hi => ?_, fun i hi hl => ?_, fun i hi hl => ?_⟩
    · by_cases e : i = 4 + i0
      · simp [e]
      · simp only [e, beq_iff_eq, Bool.or_eq_true, false_or, beq_eq_false_iff_ne]
        unfold don9 at hi ⊢
        split at hi
        · rename_i h4
          try dsimp only at hi
          rw [orNe (by omega)] at hi
          rw [if_pos h4]; exact hi
        · rename_i h4
          rw [if_neg h4]
          split at hi
          · rename_i h8
            try dsimp only at hi
            rw [orNe (by omega)] at hi
            rw [if_pos h8]; exact hi
          · cases hi
    · try dsimp only at hl
      rw [orNe (by omega)] at hl
      try dsimp only
      rw [vNe (by omega), updT_other _ _ (by omega), updT_other _ _ (by omega)]
      exact h1 i hi hl
    · by_cases e : i = i0
      · subst e
        try dsimp only
        rw [if_pos rfl, updT_same, updT_same, orNe (by omega), hs]
        exact ⟨_, rfl, rfl, rfl⟩
      · try dsimp only at hl
        rw [orNe (by omega)] at hl
        try dsimp only
        rw [vNe (by omega), updT_other _ _ (by omega), updT_other _ _ (by omega), orNe (by omega), vNe (by omega)]
        exact h2 i hi hl
theorem J9.box (h : J9 N w8 v hv fn l val W) (i0 : Nat) (h0 : i0 < 4) (hl : l (12 + i0) = true) : ∃ g, val (12 + i0) = .pointer (some ⟨g, 0, none⟩) ∧ N ≤ g ∧ Box W g (cond (l (16 + i0)) (hdr (val (3 * i0 + 2))) zro) := by
  obtain ⟨S, P, hT, h1, h2⟩ := h.th
  obtain ⟨g, e1, e2, e3⟩ := h2 i0 h0 hl
  have hd : don9 l (4 + i0) = true := by
    unfold don9
    rw [if_neg (by omega), if_pos (by omega), show 4 + i0 + 8 = 12 + i0 by omega]
    exact hl
  have h3 := hT.holds (4 + i0) hd
  rw [e3] at h3
  exact ⟨g, e1, (hT.ins (4 + i0) hd g (by rw [e2])).1, h3⟩
theorem J9.row (h : J9 N w8 v hv fn l val W) (i0 : Nat) (h0 : i0 < 4) (hl : l (3 * i0 + 2) = true) : ∃ B1 B2 B3 c1 c2 c3, val (3 * i0 + 2) = visV v B1 B2 B3 c1 c2 c3 := by
  obtain ⟨S, P, hT, h1, h2⟩ := h.th
  obtain ⟨B1, B2, B3, c1, c2, c3, e1, _⟩ := h1 i0 h0 hl
  exact ⟨B1, B2, B3, c1, c2, c3, e1⟩
theorem J9.store (h : J9 N w8 v hv fn l val W) (i0 : Nat) (h0 : i0 < 4) (hl2 : l (3 * i0 + 2) = true) (hl12 : l (12 + i0) = true) {g : Nat} (hg : val (12 + i0) = .pointer (some ⟨g, 0, none⟩)) (u : Value) {W' : World} (hF : Frm W.heap.size (fun x => x = g) W W') (hb : Box W' g (hdr (val (3 * i0 + 2)))) :
    J9 N w8 v hv fn (fun j => j == 16 + i0 || l j) (fun j => if j = 16 + i0 then u else val j) W' := by
  refine ⟨fun i hi hl => ?_, fun i hi hl => ?_, fun i hi hl => ?_, ?_⟩
  · try dsimp only at hl
    rw [orNe (by omega)] at hl
    try dsimp only
    rw [vNe (by omega)]
    exact h.mv i hi hl
  · try dsimp only at hl
    rw [orNe (by omega)] at hl
    try dsimp only
    rw [vNe (by omega)]
    exact h.ld i hi hl
  · try dsimp only
    rw [orNe (by omega), orNe (by omega)]
    by_cases e : i = i0
    · subst e; exact ⟨hl12, hl2⟩
    · try dsimp only at hl
      rw [orNe (by omega)] at hl
      exact h.ord i hi hl
  · obtain ⟨S, P, hT, h1, h2⟩ := h.th
    have hd : don9 l (4 + i0) = true := by
      unfold don9
      rw [if_neg (by omega), if_pos (by omega), show 4 + i0 + 8 = 12 + i0 by omega]
      exact hl12
    obtain ⟨g', e1, e2, e3⟩ := h2 i0 h0 hl12
    obtain rfl : g = g' := by rw [hg] at e1; simpa using e1
    refine ⟨_, _, (hT.turn (4 + i0) (hF.mono (Nat.le_refl _) (fun k _ hk => ⟨hd, by rw [e2]; exact hk⟩)) (fun x => x = g) (fun V => Box V g (hdr (val (3 * i0 + 2)))) (fun x hx => .inl ⟨hd, by rw [e2]; exact hx⟩) hb Box.loc).congr fun i hi => ?_, fun i hi hl => ?_, fun i hi hl => ?_⟩
    · by_cases e : i = 4 + i0
      · simp [e]
      · simp only [e, beq_iff_eq, Bool.or_eq_true, false_or, beq_eq_false_iff_ne]
        unfold don9 at hi ⊢
        split at hi
        · rename_i h4
          try dsimp only at hi
          rw [orNe (by omega)] at hi
          rw [if_pos h4]; exact hi
        · rename_i h4
          rw [if_neg h4]
          split at hi
          · rename_i h8
            try dsimp only at hi
            rw [orNe (by omega)] at hi
            rw [if_pos h8]; exact hi
          · cases hi
    · try dsimp only at hl
      rw [orNe (by omega)] at hl
      try dsimp only
      rw [vNe (by omega), updT_other _ _ (by omega), updT_other _ _ (by omega)]
      exact h1 i hi hl
    · try dsimp only at hl
      rw [orNe (by omega)] at hl
      by_cases e : i = i0
      · subst e
        try dsimp only
        rw [vNe (by omega), updT_same, updT_same, vNe (by omega)]
        exact ⟨g, hg, rfl, by simp⟩
      · try dsimp only
        rw [vNe (by omega), updT_other _ _ (by omega), updT_other _ _ (by omega), orNe (by omega), vNe (by omega)]
        exact h2 i hi hl
end

/-- A copy: its rows and its box. -/
def CpyP (N : Nat) (vs : Nat → Vis) (gs : Nat → Nat) (S : Nat → Nat → Prop) (i : Nat) (W : World) : Prop :=
  ∃ B1 B2 B3 c1 c2 c3, Rows3 N (vs i) B1 B2 B3 c1 c2 c3 W ∧ Box W (gs i) [.slice B1 (vs i).rm.length c1, .slice B2 (vs i).tr.length c2, .slice B3 (vs i).ar.length c3] ∧ (∀ x, Blk3 B1 B2 B3 x → S i x) ∧ S i (gs i) ∧ ¬ Blk3 B1 B2 B3 (gs i)
/-- Four copies. -/
def Cpy (N : Nat) (w8 : World) (vs : Nat → Vis) (gs : Nat → Nat) (W : World) : Prop := ∃ S, Thg N w8 (fun i => decide (i < 4)) S (CpyP N vs gs S) W
section
variable {N : Nat} {w8 : World} {vs : Nat → Vis} {gs : Nat → Nat} {W W' : World}
theorem CpyP.loc {S : Nat → Nat → Prop} {i : Nat} (vs : Nat → Vis) (gs : Nat → Nat) (N : Nat) : Loc (S i) (CpyP N vs gs S i) := fun W W' hk hz h => by
  obtain ⟨B1, B2, B3, c1, c2, c3, h1, h2, h3, h4, h5⟩ := h
  exact ⟨B1, B2, B3, c1, c2, c3, Rows3.loc W W' (fun g hg => hk g (h3 g hg)) hz h1, Box.loc W W' (fun g hg => hk g (by subst hg; exact h4)) hz h2, h3, h4, h5⟩
theorem Cpy.low (h : Cpy N w8 vs gs W) : Below N w8 W := by
  obtain ⟨S, h⟩ := h
  exact h.low
theorem Cpy.later (h : Cpy N w8 vs gs W) (hB : Below W.heap.size W W') : Cpy N w8 vs gs W' := by
  obtain ⟨S, h⟩ := h
  exact ⟨S, h.later hB⟩
theorem Cpy.get (h : Cpy N w8 vs gs W) (i : Nat) (hi : i < 4) : ∃ B1 B2 B3 c1 c2 c3, Rows3 N (vs i) B1 B2 B3 c1 c2 c3 W ∧ Box W (gs i) [.slice B1 (vs i).rm.length c1, .slice B2 (vs i).tr.length c2, .slice B3 (vs i).ar.length c3] ∧ N ≤ gs i ∧ ¬ Blk3 B1 B2 B3 (gs i) ∧
    ∀ W' v' B1' B2' B3' c1' c2' c3', Frm W.heap.size (fun x => Blk3 B1 B2 B3 x ∨ x = gs i) W W' → (∀ x, Blk3 B1' B2' B3' x → Blk3 B1 B2 B3 x ∨ W.heap.size ≤ x) → Rows3 N v' B1' B2' B3' c1' c2' c3' W' →
      Box W' (gs i) [.slice B1' v'.rm.length c1', .slice B2' v'.tr.length c2', .slice B3' v'.ar.length c3'] → Cpy N w8 (updT vs i v') gs W' := by
  obtain ⟨S, h⟩ := h
  have hd : decide (i < 4) = true := decide_eq_true hi
  obtain ⟨B1, B2, B3, c1, c2, c3, h1, h2, h3, h4, h5⟩ := h.holds i hd
  have hz := h2.1
  refine ⟨B1, B2, B3, c1, c2, c3, h1, h2, (h.ins i hd _ h4).1, h5, fun W' v' B1' B2' B3' c1' c2' c3' hF hblk hR hbx => ?_⟩
  have hins := hR.ins
  have hn5 : ¬ Blk3 B1' B2' B3' (gs i) := fun hb => by
    rcases hblk _ hb with h6 | h6
    · exact h5 h6
    · omega
  obtain ⟨S', hS'⟩ : ∃ S' : Nat → Prop, S' = fun x => S i x ∨ (W.heap.size ≤ x ∧ x < W'.heap.size) := ⟨_, rfl⟩
  have hb' : ∀ x, Blk3 B1' B2' B3' x → S' x := fun x hx => by
    rw [hS']
    rcases hblk x hx with h6 | h6
    · exact .inl (h3 x h6)
    · exact .inr ⟨h6, (hins x hx).2⟩
  have hg' : S' (gs i) := by rw [hS']; exact .inl h4
  have hT := h.turn i (hF.mono (Nat.le_refl _) (fun k _ hk => ⟨hd, by rcases hk with hk | hk; exact h3 k hk; subst hk; exact h4⟩)) S' (fun V => ∃ B1 B2 B3 c1 c2 c3, Rows3 N v' B1 B2 B3 c1 c2 c3 V ∧ Box V (gs i) [.slice B1 v'.rm.length c1, .slice B2 v'.tr.length c2, .slice B3 v'.ar.length c3] ∧ (∀ x, Blk3 B1 B2 B3 x → S' x) ∧ S' (gs i) ∧ ¬ Blk3 B1 B2 B3 (gs i))
    (fun g hg => by rw [hS'] at hg; rcases hg with hg | hg; exact .inl ⟨hd, hg⟩; exact .inr hg) ⟨B1', B2', B3', c1', c2', c3', hR, hbx, hb', hg', hn5⟩
    (fun V V' hk hzz hh => by
      obtain ⟨B1, B2, B3, c1, c2, c3, k1, k2, k3, k4, k5⟩ := hh
      exact ⟨B1, B2, B3, c1, c2, c3, Rows3.loc V V' (fun g hg => hk g (k3 g hg)) hzz k1, Box.loc V V' (fun g hg => hk g (by subst hg; exact k4)) hzz k2, k3, k4, k5⟩)
  refine ⟨updT S i S', ?_⟩
  have hT2 := hT.congr (don' := fun i => decide (i < 4)) (fun j hj => by rw [hj]; simp)
  refine ⟨hT2.low, hT2.size, hT2.ins, fun j hj => ?_, hT2.apart, fun j hj => CpyP.loc _ _ _⟩
  by_cases e : j = i
  · subst e
    have := hT2.holds j hj
    rw [updT_same] at this
    unfold CpyP
    rw [updT_same, updT_same]
    exact this
  · have := hT2.holds j hj
    rw [updT_other _ _ e] at this
    unfold CpyP at this ⊢
    rw [updT_other _ _ e, updT_other _ _ e]
    exact this
end
def gs4 (g0 g1 g2 g3 : Nat) : Nat → Nat
  | 0 => g0
  | 1 => g1
  | 2 => g2
  | _ => g3
theorem J9.fin {N : Nat} {w8 : World} {v : Vis} {hv fn : Value} {l : Nat → Bool} {val : Nat → Value} {W : World} (h : J9 N w8 v hv fn l val W) (hall : ∀ i, i < 20 → l i = true) :
    ∃ g0 g1 g2 g3, val 12 = .pointer (some ⟨g0, 0, none⟩) ∧ val 13 = .pointer (some ⟨g1, 0, none⟩) ∧ val 14 = .pointer (some ⟨g2, 0, none⟩) ∧ val 15 = .pointer (some ⟨g3, 0, none⟩) ∧ Cpy N w8 (fun _ => v) (gs4 g0 g1 g2 g3) W := by
  obtain ⟨S, P, hT, h1, h2⟩ := h.th
  obtain ⟨g0, e0, s0, p0⟩ := h2 0 (by omega) (hall _ (by omega))
  obtain ⟨g1, e1, s1, p1⟩ := h2 1 (by omega) (hall _ (by omega))
  obtain ⟨g2, e2, s2, p2⟩ := h2 2 (by omega) (hall _ (by omega))
  obtain ⟨g3, e3, s3, p3⟩ := h2 3 (by omega) (hall _ (by omega))
  refine ⟨g0, g1, g2, g3, e0, e1, e2, e3, fun i x => S i x ∨ S (4 + i) x, ?_⟩
  have hd1 : ∀ i, i < 4 → don9 l i = true := fun i hi => by unfold don9; rw [if_pos hi]; exact hall _ (by omega)
  have hd2 : ∀ i, i < 4 → don9 l (4 + i) = true := fun i hi => by unfold don9; rw [if_neg (by omega), if_pos (by omega)]; exact hall _ (by omega)
  have hbx : ∀ i, i < 4 → S (4 + i) = (fun x => x = gs4 g0 g1 g2 g3 i) ∧ P (4 + i) = fun W => Box W (gs4 g0 g1 g2 g3 i) (hdr (val (3 * i + 2))) := fun i hi => by
    have hl : l (16 + i) = true := hall _ (by omega)
    rcases (by omega : i = 0 ∨ i = 1 ∨ i = 2 ∨ i = 3) with rfl | rfl | rfl | rfl
    · exact ⟨s0, by rw [p0, hl]; rfl⟩
    · exact ⟨s1, by rw [p1, hl]; rfl⟩
    · exact ⟨s2, by rw [p2, hl]; rfl⟩
    · exact ⟨s3, by rw [p3, hl]; rfl⟩
  refine ⟨hT.low, hT.size, fun i hi g hg => ?_, fun i hi => ?_, fun i j hij hi hj g hg hg' => ?_, fun i hi => CpyP.loc (S := fun i x => S i x ∨ S (4 + i) x) (i := i) _ _ _⟩
  · have hi := of_decide_eq_true hi
    rcases hg with hg | hg
    · exact hT.ins i (hd1 i hi) g hg
    · exact hT.ins _ (hd2 i hi) g hg
  · have hi := of_decide_eq_true hi
    obtain ⟨B1, B2, B3, c1, c2, c3, k1, k2, k3⟩ := h1 i hi (hall _ (by omega))
    have r1 := hT.holds i (hd1 i hi)
    rw [k3] at r1
    have r2 := hT.holds _ (hd2 i hi)
    rw [(hbx i hi).2, k1] at r2
    have r3 := hT.apart i (4 + i) (by omega) (hd1 i hi) (hd2 i hi)
    rw [k2, (hbx i hi).1] at r3
    exact ⟨B1, B2, B3, c1, c2, c3, r1, r2, fun x hx => .inl (by rw [k2]; exact hx), .inr (by rw [(hbx i hi).1]), fun hb => r3 _ hb rfl⟩
  · have hi := of_decide_eq_true hi
    have hj := of_decide_eq_true hj
    rcases hg with hg | hg <;> rcases hg' with hg' | hg'
    · exact hT.apart i j hij (hd1 i hi) (hd1 j hj) g hg hg'
    · exact hT.apart i (4 + j) (by omega) (hd1 i hi) (hd2 j hj) g hg hg'
    · exact hT.apart (4 + i) j (by omega) (hd2 i hi) (hd1 j hj) g hg hg'
    · exact hT.apart (4 + i) (4 + j) (by omega) (hd2 i hi) (hd2 j hj) g hg hg'

/-- The first k are turned. -/
def mapK {α : Type} (h : Nat → α → α) (l : List α) (k : Nat) : List α := l.mapIdx fun i x => if i < k then h i x else x
section
variable {α : Type} {h : Nat → α → α} {l : List α}
theorem mapK_len (h : Nat → α → α) (l : List α) (k : Nat) : (mapK h l k).length = l.length := by simp [mapK]
theorem mapK_at {k : Nat} (h1 : k < (mapK h l k).length) (h2 : k < l.length) : (mapK h l k)[k] = l[k] := by simp [mapK]
theorem mapK_zero (h : Nat → α → α) (l : List α) : mapK h l 0 = l := by
  apply List.ext_getElem
  · simp [mapK]
  · intro i h1 h2
    simp [mapK]
theorem mapK_set {k : Nat} (hk : k < l.length) : (mapK h l k).set k (h k l[k]) = mapK h l (k + 1) := by
  apply List.ext_getElem
  · simp [mapK]
  · intro i h1 h2
    rw [List.getElem_set]
    simp only [mapK, List.getElem_mapIdx]
    by_cases e : k = i
    · subst e; simp
    · rw [if_neg e]
      by_cases e2 : i < k
      · rw [if_pos e2, if_pos (by omega)]
      · rw [if_neg e2, if_neg (by omega)]
theorem mapK_all (h : Nat → α → α) (l : List α) : mapK h l l.length = l.mapIdx h := by
  apply List.ext_getElem
  · simp [mapK]
  · intro i h1 h2
    have h3 : i < l.length := by simpa [mapK] using h1
    simp [mapK, h3]
end
theorem flat3_set : ∀ (l : List (Int × Int × Int)) (k : Nat) (z : Int) (h : k < l.length), flat3 (l.set k (l[k].1, l[k].2.1, z)) = (flat3 l).set (k * 3 + 2) (I z)
  | x :: r, 0, z, h => rfl
  | x :: r, k + 1, z, h => by
    have hk : k < r.length := by simpa using h
    have e : (k + 1) * 3 + 2 = (k * 3 + 2) + 1 + 1 + 1 := by omega
    rw [e]
    show flat3 (x :: r.set k (r[k].1, r[k].2.1, z)) = _
    rw [flat3_cons, flat3_cons, flat3_set r k z hk]
    rfl
/-- A room is stored. -/
theorem Rows3.setRoom {N g : Nat} {v : Vis} {A2 A3 : Option Addr} {c1 c2 c3 : Nat} {W : World} (h : Rows3 N v (some ⟨g, 0, none⟩) A2 A3 c1 c2 c3 W) (k : Nat) (x : Int) :
    Rows3 N ⟨v.rm.set k x, v.tr, v.ar⟩ (some ⟨g, 0, none⟩) A2 A3 c1 c2 c3 (W.setCell ⟨g, k, none⟩ (I x)) := by
  have key : ∀ {e : TypeId} {sz n : Nat} {r : Value} {xs : List Value}, e ≠ 3 → W.ownsRow N e sz r n xs → (W.setCell ⟨g, k, none⟩ (I x)).ownsRow N e sz r n xs := fun he ho => own_at ho fun g' hg' => Below.heap_setCell _ _ _ _ (by
    intro e2
    rcases own_ne ho h.r1 he with h2 | h2
    · rw [h2] at hg'; cases hg'
    · exact h2 (hg'.trans (by rw [e2]; rfl)))
  refine ⟨?_, key (by decide) h.r2, key (by decide) h.r3⟩
  have := (h.r1.stored k (I x)).1
  rw [← List.map_set] at this
  simpa using this
/-- A trail's room is stored. -/
theorem Rows3.setTrail {N g : Nat} {v : Vis} {A1 A3 : Option Addr} {c1 c2 c3 : Nat} {W : World} (h : Rows3 N v A1 (some ⟨g, 0, none⟩) A3 c1 c2 c3 W) (k : Nat) (hk : k < v.tr.length) (x : Int) :
    Rows3 N ⟨v.rm, v.tr.set k (v.tr[k].1, v.tr[k].2.1, v.tr[k].2.2.1, x), v.ar⟩ A1 (some ⟨g, 0, none⟩) A3 c1 c2 c3 (W.setCell ⟨g, k * 4 + 3, none⟩ (I x)) := by
  have key : ∀ {e : TypeId} {sz n : Nat} {r : Value} {xs : List Value}, e ≠ 51 → W.ownsRow N e sz r n xs → (W.setCell ⟨g, k * 4 + 3, none⟩ (I x)).ownsRow N e sz r n xs := fun he ho => own_at ho fun g' hg' => Below.heap_setCell _ _ _ _ (by
    intro e2
    rcases own_ne ho h.r2 he with h2 | h2
    · rw [h2] at hg'; cases hg'
    · exact h2 (hg'.trans (by rw [e2]; rfl)))
  refine ⟨key (by decide) h.r1, ?_, key (by decide) h.r3⟩
  have := (h.r2.stored (k * 4 + 3) (I x)).1
  rw [← flat4_set v.tr k x hk] at this
  simpa using this
/-- The people of an arrival are stored. -/
theorem Rows3.setPeople {N g : Nat} {v : Vis} {A1 A2 : Option Addr} {c1 c2 c3 : Nat} {W : World} (h : Rows3 N v A1 A2 (some ⟨g, 0, none⟩) c1 c2 c3 W) (k : Nat) (hk : k < v.ar.length) (x : Int) :
    Rows3 N ⟨v.rm, v.tr, v.ar.set k (v.ar[k].1, v.ar[k].2.1, x)⟩ A1 A2 (some ⟨g, 0, none⟩) c1 c2 c3 (W.setCell ⟨g, k * 3 + 2, none⟩ (I x)) := by
  have key : ∀ {e : TypeId} {sz n : Nat} {r : Value} {xs : List Value}, e ≠ 49 → W.ownsRow N e sz r n xs → (W.setCell ⟨g, k * 3 + 2, none⟩ (I x)).ownsRow N e sz r n xs := fun he ho => own_at ho fun g' hg' => Below.heap_setCell _ _ _ _ (by
    intro e2
    rcases own_ne ho h.r3 he with h2 | h2
    · rw [h2] at hg'; cases hg'
    · exact h2 (hg'.trans (by rw [e2]; rfl)))
  refine ⟨key (by decide) h.r1, key (by decide) h.r2, ?_⟩
  have := (h.r3.stored (k * 3 + 2) (I x)).1
  rw [← flat3_set v.ar k x hk] at this
  simpa using this
end Go.Proofs.YtomfnldlnoiloaaDoor

/- CrowdMore: a copy's parts, one by one; an append that tells its block. -/
namespace Go.Proofs.YtomfnldlnoiloaaDoor
set_option linter.unusedVariables false
set_option linter.unusedSimpArgs false
open Go Go.RowKit Go.Maps

section
variable {P : Program}
/-- An append to one's own row: the row stays where it was, or lies in a new block. -/
theorem run_append_blk (w : World) (base : Nat) (t ty e : TypeId) (i : TypeInfo) (z : Value) (size bytes : Nat) (ht : P.underlying t = some (.slice e)) (hi : P.info? e = some i) (hz : i.zero = some z)
    (hsize : i.size = size) (hby : i.bytes = bytes) (hzs : z.cells.size = size) (hsz : 0 < size)
    (v : Value) (n : Nat) (xs : List Value) (hown : w.ownsRow base e size v n xs)
    (a : Addr) (m c : Nat) (news : List Value) (hm : 0 < m) (hl : news.length = m * size) (hnews : ∀ j u, news[j]? = some u → w.cell? (a.add j) = some u) (h1 : ∀ u ∈ news, u.oneCell' = true)
    (h63 : n + m ≤ maxLen) (hbytes : (n + m) * bytes ≤ 140737488355328) (hbase : base ≤ w.heap.size) :
    ∃ v' w', (Builtin.append_ #[t, t] ty #[v, .slice (some a) m c]).run P w = .ok v' w' ∧ w'.ownsRow base e size v' (n + m) (xs ++ news) ∧ w.grownBy w' v.ownBlock ∧ (v'.ownBlock = v.ownBlock ∨ v'.ownBlock = some w.heap.size) := by
  obtain ⟨v', w', hr, h2, h3, h4⟩ := run_append_own (P := P) w base t ty e i z size bytes ht hi hz hsize hby hzs hsz v n xs hown a m c news hl hnews h1 h63 hbytes hbase
  refine ⟨v', w', hr, h2, h3, ?_⟩
  have hsmall : n + m ≤ 9223372036854775807 := by simp only [maxLen] at h63; omega
  rcases hown.2 with ⟨rfl, rfl⟩ | ⟨g, cap, cur, rfl, hbg, hg, hnc, hcm, hcs, htake⟩
  · subst hsize
    subst hby
    have hr' := run_append_nil (P := P) w t ty e i z ht hi hz a m c news hl hnews hm (by omega) (by have hb := hbytes; simp only [Nat.zero_add] at hb; omega)
    rw [hr] at hr'
    right
    injection hr' with e1 e2
    rw [e1]
    rfl
  · by_cases hroom : n + m ≤ cap
    · obtain ⟨w'', hr', _⟩ := run_append_fits (P := P) w base t ty e i size ht hi hsize g n cap xs hown a m c news hl hnews h1 hroom
      rw [hr] at hr'
      left
      injection hr' with e1 e2
      rw [e1]
      rfl
    · subst hsize
      subst hby
      have hr' := run_append_grow (P := P) w t ty e i z ht hi hz ⟨g, 0, none⟩ n cap xs hown.1 (hown.cells (g := g) rfl) a m c news hl hnews (by omega) (by omega) (growslice_fits (by omega) hbytes)
      rw [hr] at hr'
      right
      injection hr' with e1 e2
      rw [e1]
      rfl
theorem wpList_append_blk (w : World) {ops : Array Oper} {rest : List Oper} {o : Oper} {a : Act} {Q : Exit → Act → World → Prop} (hgd : o.guard = none) (s x : Operand) (t : TypeId)
    (ho : o.op = .call { callee := .builtin .append, args := #[s, x], argTypes := #[t, t] })
    (base : Nat) (e : TypeId) (i : TypeInfo) (z : Value) (size bytes : Nat) (ht : P.underlying t = some (.slice e)) (hi : P.info? e = some i) (hz : i.zero = some z)
    (hsize : i.size = size) (hby : i.bytes = bytes) (hzs : z.cells.size = size) (hsz : 0 < size)
    (v : Value) (k : Nat) (xs : List Value) (hs : a.eval s = v) (hown : w.ownsRow base e size v k xs)
    (ad : Addr) (m c : Nat) (news : List Value) (hx : a.eval x = .slice (some ad) m c) (hm : 0 < m) (hl : news.length = m * size) (hnews : ∀ j u, news[j]? = some u → w.cell? (ad.add j) = some u) (h1 : ∀ u ∈ news, u.oneCell' = true)
    (h63 : k + m ≤ maxLen) (hbytes : (k + m) * bytes ≤ 140737488355328) (hbase : base ≤ w.heap.size)
    (h : ∀ v' w', w'.ownsRow base e size v' (k + m) (xs ++ news) → w.grownBy w' v.ownBlock → (v'.ownBlock = v.ownBlock ∨ v'.ownBlock = some w.heap.size) → wpList P ops Q rest (a.put o.dst v') w') : wpList P ops Q (o :: rest) a w :=
  wpList_plain hgd fun _ hK => by
    obtain ⟨v', w', hr, h2, h3, h4⟩ := run_append_blk (P := P) w base t o.type e i z size bytes ht hi hz hsize hby hzs hsz v k xs hown ad m c news hm hl hnews h1 h63 hbytes hbase
    unfold Oper.wp execOp
    simp only [ho, resolve, invoke, builtin, Sem.run_bind, Sem.run_pure, Result.andThen_ok, List.map_toArray, List.map_cons, List.map_nil, hs, hx, hr]
    exact hK _ _ (h v' w' h2 h3 h4)
end
section
variable {N : Nat} {w8 : World} {vs : Nat → Vis} {gs : Nat → Nat} {W W' : World}
theorem Cpy.vis (h : Cpy N w8 vs gs W) (i : Nat) (hi : i < 4) : ∃ B1 B2 B3 c1 c2 c3, Box W (gs i) [.slice B1 (vs i).rm.length c1, .slice B2 (vs i).tr.length c2, .slice B3 (vs i).ar.length c3] ∧ VisAt W W.heap.size (vs i) B1 B2 B3 ∧ N ≤ gs i := by
  obtain ⟨B1, B2, B3, c1, c2, c3, h1, h2, h3, _⟩ := h.get i hi
  exact ⟨B1, B2, B3, c1, c2, c3, h2, h1.vis, h3⟩
theorem Cpy.room (h : Cpy N w8 vs gs W) (i : Nat) (hi : i < 4) (k : Nat) (hk : k < (vs i).rm.length) : ∃ g c1 A2 A3 c2 c3, Box W (gs i) [.slice (some ⟨g, 0, none⟩) (vs i).rm.length c1, .slice A2 (vs i).tr.length c2, .slice A3 (vs i).ar.length c3] ∧
    W.cell? ⟨g, k, none⟩ = some (I (vs i).rm[k]) ∧ W.frozen? ⟨g, k, none⟩ = false ∧ N ≤ g ∧ ∀ x, Cpy N w8 (updT vs i ⟨(vs i).rm.set k x, (vs i).tr, (vs i).ar⟩) gs (W.setCell ⟨g, k, none⟩ (I x)) := by
  obtain ⟨B1, B2, B3, c1, c2, c3, h1, h2, h3, h4, h5⟩ := h.get i hi
  obtain ⟨g, rfl, hg1, hg2⟩ := own4_form h1.r1 (by omega)
  refine ⟨g, c1, B2, B3, c2, c3, h2, ?_, h1.r1.frozenAt k, hg1, fun x => ?_⟩
  · rw [h1.r1.cellAt k (by omega), List.getElem?_map, List.getElem?_eq_getElem hk]
    rfl
  · have hb : Blk3 (some ⟨g, 0, none⟩) B2 B3 g := .inl ⟨_, rfl, rfl⟩
    refine h5 _ _ (some ⟨g, 0, none⟩) B2 B3 c1 c2 c3 ((Frm.refl _ _ _).setCell (.inr (.inl hb)) _) (fun y hy => .inl hy) (h1.setRoom k x) ?_
    have := h2.far (p := ⟨g, k, none⟩) (fun e => h4 (by rw [← e]; exact hb)) (I x)
    simpa using this
theorem Cpy.trail (h : Cpy N w8 vs gs W) (i : Nat) (hi : i < 4) (k : Nat) (hk : k < (vs i).tr.length) : ∃ g c2 A1 A3 c1 c3, Box W (gs i) [.slice A1 (vs i).rm.length c1, .slice (some ⟨g, 0, none⟩) (vs i).tr.length c2, .slice A3 (vs i).ar.length c3] ∧
    W.cell? ⟨g, k * 4 + 3, none⟩ = some (I (vs i).tr[k].2.2.2) ∧ W.frozen? ⟨g, k * 4 + 3, none⟩ = false ∧ N ≤ g ∧ ∀ x, Cpy N w8 (updT vs i ⟨(vs i).rm, (vs i).tr.set k ((vs i).tr[k].1, (vs i).tr[k].2.1, (vs i).tr[k].2.2.1, x), (vs i).ar⟩) gs (W.setCell ⟨g, k * 4 + 3, none⟩ (I x)) := by
  obtain ⟨B1, B2, B3, c1, c2, c3, h1, h2, h3, h4, h5⟩ := h.get i hi
  obtain ⟨g, rfl, hg1, hg2⟩ := own4_form h1.r2 (by omega)
  refine ⟨g, c2, B1, B3, c1, c3, h2, ?_, h1.r2.frozenAt _, hg1, fun x => ?_⟩
  · rw [h1.r2.cellAt (k * 4 + 3) (by omega)]
    exact (flat4_get _ k hk).2.2.2
  · have hb : Blk3 B1 (some ⟨g, 0, none⟩) B3 g := .inr (.inl ⟨_, rfl, rfl⟩)
    refine h5 _ _ B1 (some ⟨g, 0, none⟩) B3 c1 c2 c3 ((Frm.refl _ _ _).setCell (.inr (.inl hb)) _) (fun y hy => .inl hy) (h1.setTrail k hk x) ?_
    have := h2.far (p := ⟨g, k * 4 + 3, none⟩) (fun e => h4 (by rw [← e]; exact hb)) (I x)
    simpa using this
theorem Cpy.people (h : Cpy N w8 vs gs W) (i : Nat) (hi : i < 4) (k : Nat) (hk : k < (vs i).ar.length) : ∃ g c3 A1 A2 c1 c2, Box W (gs i) [.slice A1 (vs i).rm.length c1, .slice A2 (vs i).tr.length c2, .slice (some ⟨g, 0, none⟩) (vs i).ar.length c3] ∧
    W.cell? ⟨g, k * 3 + 2, none⟩ = some (I (vs i).ar[k].2.2) ∧ W.frozen? ⟨g, k * 3 + 2, none⟩ = false ∧ N ≤ g ∧ ∀ x, Cpy N w8 (updT vs i ⟨(vs i).rm, (vs i).tr, (vs i).ar.set k ((vs i).ar[k].1, (vs i).ar[k].2.1, x)⟩) gs (W.setCell ⟨g, k * 3 + 2, none⟩ (I x)) := by
  obtain ⟨B1, B2, B3, c1, c2, c3, h1, h2, h3, h4, h5⟩ := h.get i hi
  obtain ⟨g, rfl, hg1, hg2⟩ := own4_form h1.r3 (by omega)
  refine ⟨g, c3, B1, B2, c1, c2, h2, ?_, h1.r3.frozenAt _, hg1, fun x => ?_⟩
  · rw [h1.r3.cellAt (k * 3 + 2) (by omega)]
    exact (flat3_get _ k hk).2.2
  · have hb : Blk3 B1 B2 (some ⟨g, 0, none⟩) g := .inr (.inr ⟨_, rfl, rfl⟩)
    refine h5 _ _ B1 B2 (some ⟨g, 0, none⟩) c1 c2 c3 ((Frm.refl _ _ _).setCell (.inr (.inl hb)) _) (fun y hy => .inl hy) (h1.setPeople k hk x) ?_
    have := h2.far (p := ⟨g, k * 3 + 2, none⟩) (fun e => h4 (by rw [← e]; exact hb)) (I x)
    simpa using this
/-- The row of trails, to which one more can be appended. -/
theorem Cpy.more (h : Cpy N w8 vs gs W) (i : Nat) (hi : i < 4) : ∃ B1 B2 B3 c1 c2 c3, W.ownsRow N 51 4 (.slice B2 (vs i).tr.length c2) (vs i).tr.length (flat4 (vs i).tr) ∧ Box W (gs i) [.slice B1 (vs i).rm.length c1, .slice B2 (vs i).tr.length c2, .slice B3 (vs i).ar.length c3] ∧
    ∀ (v' : Value) (W' : World) (x : Int × Int × Int × Int), W'.ownsRow N 51 4 v' ((vs i).tr.length + 1) (flat4 (vs i).tr ++ [I x.1, I x.2.1, I x.2.2.1, I x.2.2.2]) → W.grownBy W' (Value.slice B2 (vs i).tr.length c2).ownBlock → (v'.ownBlock = (Value.slice B2 (vs i).tr.length c2).ownBlock ∨ v'.ownBlock = some W.heap.size) →
      (∃ y, W'.cell? ⟨gs i, 1, none⟩ = some y) ∧ W'.frozen? ⟨gs i, 1, none⟩ = false ∧ Cpy N w8 (updT vs i (trV (vs i) x)) gs (W'.setCell ⟨gs i, 1, none⟩ v') := by
  obtain ⟨B1, B2, B3, c1, c2, c3, h1, h2, h3, h4, h5⟩ := h.get i hi
  refine ⟨B1, B2, B3, c1, c2, c3, h1.r2, h2, fun v' W' x ho hg hbk => ?_⟩
  have hne : (Value.slice B2 (vs i).tr.length c2).ownBlock ≠ some (gs i) := fun e => h4 (.inr (.inl (own_blk e)))
  have hbx := h2.grown hg hne
  obtain ⟨y1, z1⟩ := hbx.at_ 1 _ rfl
  refine ⟨⟨_, y1⟩, z1, ?_⟩
  obtain ⟨g', cap', rfl, hg', hgz⟩ : ∃ g cap, v' = .slice (some ⟨g, 0, none⟩) ((vs i).tr.length + 1) cap ∧ N ≤ g ∧ g < W'.heap.size := by
    rcases own_formS ho with ⟨_, h7⟩ | ⟨g, cap, h7, h8, h9⟩
    · omega
    · exact ⟨g, cap, h7, h8, h9⟩
  have hblk : ∀ y, Blk3 B1 (some ⟨g', 0, none⟩) B3 y → Blk3 B1 B2 B3 y ∨ W.heap.size ≤ y := fun y hy => by
    rcases hy with hy | ⟨a, ha, hy⟩ | hy
    · exact .inl (.inl hy)
    · cases ha
      rcases hbk with hb | hb
      · exact .inl (.inr (.inl (own_blk (hb.symm.trans (by rw [← hy]; rfl)))))
      · right
        have e : g' = W.heap.size := by simpa [Value.ownBlock] using hb
        rw [← hy]; exact Nat.le_of_eq e.symm
    · exact .inl (.inr (.inr hy))
  have hgs : gs i < W.heap.size := h2.1
  have hne2 : g' ≠ gs i := fun e => by
    rcases hblk g' (.inr (.inl ⟨_, rfl, rfl⟩)) with h8 | h8
    · rw [e] at h8; exact h4 h8
    · omega
  have key : ∀ {e : TypeId} {sz n : Nat} {r : Value} {xs : List Value}, W'.ownsRow N e sz r n xs → (r.ownBlock ≠ some (gs i)) → (W'.setCell ⟨gs i, 1, none⟩ (.slice (some ⟨g', 0, none⟩) ((vs i).tr.length + 1) cap')).ownsRow N e sz r n xs := fun ho hn => own_at ho fun g hg => Below.heap_setCell _ _ _ _ (by
    intro e2
    exact hn (hg.trans (by rw [e2])))
  have k1 := key (h1.r1.kept hg (own_ne h1.r1 h1.r2 (by decide))) (fun e => h4 (.inl (own_blk e)))
  have k3 := key (h1.r3.kept hg (own_ne h1.r3 h1.r2 (by decide))) (fun e => h4 (.inr (.inr (own_blk e))))
  have k2 := key ho (fun e => hne2 (by simpa [Value.ownBlock] using e))
  have e4 : flat4 (vs i).tr ++ [I x.1, I x.2.1, I x.2.2.1, I x.2.2.2] = flat4 ((vs i).tr ++ [x]) := by simp [flat4]
  rw [e4] at k2
  refine h5 _ (trV (vs i) x) B1 (some ⟨g', 0, none⟩) B3 c1 cap' c3 (Frm.setCell ((Frm.refl _ _ _).grown hg (Nat.le_refl _) fun k hk => .inr (.inl (.inr (.inl (own_blk hk))))) (.inr (.inr rfl)) _) hblk ⟨k1, ?_, k3⟩ ?_
  · have : (trV (vs i) x).tr.length = (vs i).tr.length + 1 := by simp [trV]
    rw [this]
    exact k2
  · have := hbx.set 1 (.slice (some ⟨g', 0, none⟩) ((vs i).tr.length + 1) cap')
    simpa [trV] using this
end
def vs4 (a b c d : Vis) : Nat → Vis
  | 0 => a
  | 1 => b
  | 2 => c
  | _ => d
theorem vs4_0 (a b c d x : Vis) : updT (vs4 a b c d) 0 x = vs4 x b c d := funext fun i => by
  rcases i with _ | _ | _ | i <;> rfl
theorem vs4_1 (a b c d x : Vis) : updT (vs4 a b c d) 1 x = vs4 a x c d := funext fun i => by
  rcases i with _ | _ | _ | i <;> rfl
theorem vs4_2 (a b c d x : Vis) : updT (vs4 a b c d) 2 x = vs4 a b x d := funext fun i => by
  rcases i with _ | _ | _ | i <;> rfl
theorem vs4_all (v : Vis) : (fun _ => v) = vs4 v v v v := funext fun i => by
  rcases i with _ | _ | _ | i <;> rfl
/-- Thing 3, of which alone is spoken behind the three. -/
theorem Cpy.three {N : Nat} {w8 : World} {vs : Nat → Vis} {gs : Nat → Nat} {W : World} (h : Cpy N w8 vs gs W) {x : Vis} (hx : vs 3 = x) : Cpy N w8 (updT vs 3 x) gs W := by
  have : updT vs 3 x = vs := funext fun i => by
    unfold updT
    split
    · rename_i e; rw [e, hx]
    · rfl
  rw [this]; exact h
theorem updT_updT {α : Type} (f : Nat → α) (k : Nat) (a b : α) : updT (updT f k a) k b = updT f k b := funext fun i => by
  unfold updT
  split <;> rfl
section
variable {N : Nat} {w8 : World} {f : Nat → Vis} {X : Vis} {gs : Nat → Nat} {W : World}
theorem Cpy.room3 (h : Cpy N w8 (updT f 3 X) gs W) (k : Nat) (hk : k < X.rm.length) : ∃ g c1 A2 A3 c2 c3, Box W (gs 3) [.slice (some ⟨g, 0, none⟩) X.rm.length c1, .slice A2 X.tr.length c2, .slice A3 X.ar.length c3] ∧
    W.cell? ⟨g, k, none⟩ = some (I X.rm[k]) ∧ W.frozen? ⟨g, k, none⟩ = false ∧ N ≤ g ∧ ∀ x, Cpy N w8 (updT f 3 ⟨X.rm.set k x, X.tr, X.ar⟩) gs (W.setCell ⟨g, k, none⟩ (I x)) := by
  have := h.room 3 (by decide) k (by rw [updT_same]; exact hk)
  simpa only [updT_same, updT_updT] using this
theorem Cpy.trail3 (h : Cpy N w8 (updT f 3 X) gs W) (k : Nat) (hk : k < X.tr.length) : ∃ g c2 A1 A3 c1 c3, Box W (gs 3) [.slice A1 X.rm.length c1, .slice (some ⟨g, 0, none⟩) X.tr.length c2, .slice A3 X.ar.length c3] ∧
    W.cell? ⟨g, k * 4 + 3, none⟩ = some (I X.tr[k].2.2.2) ∧ W.frozen? ⟨g, k * 4 + 3, none⟩ = false ∧ N ≤ g ∧ ∀ x, Cpy N w8 (updT f 3 ⟨X.rm, X.tr.set k (X.tr[k].1, X.tr[k].2.1, X.tr[k].2.2.1, x), X.ar⟩) gs (W.setCell ⟨g, k * 4 + 3, none⟩ (I x)) := by
  have := h.trail 3 (by decide) k (by rw [updT_same]; exact hk)
  simpa only [updT_same, updT_updT] using this
theorem Cpy.people3 (h : Cpy N w8 (updT f 3 X) gs W) (k : Nat) (hk : k < X.ar.length) : ∃ g c3 A1 A2 c1 c2, Box W (gs 3) [.slice A1 X.rm.length c1, .slice A2 X.tr.length c2, .slice (some ⟨g, 0, none⟩) X.ar.length c3] ∧
    W.cell? ⟨g, k * 3 + 2, none⟩ = some (I X.ar[k].2.2) ∧ W.frozen? ⟨g, k * 3 + 2, none⟩ = false ∧ N ≤ g ∧ ∀ x, Cpy N w8 (updT f 3 ⟨X.rm, X.tr, X.ar.set k (X.ar[k].1, X.ar[k].2.1, x)⟩) gs (W.setCell ⟨g, k * 3 + 2, none⟩ (I x)) := by
  have := h.people 3 (by decide) k (by rw [updT_same]; exact hk)
  simpa only [updT_same, updT_updT] using this
theorem Cpy.vis3 (h : Cpy N w8 (updT f 3 X) gs W) : ∃ B1 B2 B3 c1 c2 c3, Box W (gs 3) [.slice B1 X.rm.length c1, .slice B2 X.tr.length c2, .slice B3 X.ar.length c3] ∧ VisAt W W.heap.size X B1 B2 B3 ∧ N ≤ gs 3 := by
  have := h.vis 3 (by decide)
  simpa only [updT_same] using this
end
theorem most_rangeM {v : Vis} (hv : VisOk v) {p m : Nat} (hp : p < v.n) {val : Int} {R : Nat → Bool} (h : MostIs v p m val R) : 0 ≤ val ∧ val ≤ v.room p := by
  constructor
  · rw [h.width]
    unfold widL
    refine lsum_nn fun a ha => ?_
    have := (netD_ok hv (p := p) (m := m) hp).cap a ha
    unfold crossA
    split <;> omega
  · have h1 := h.least (fun x => x != snkN v m) (by simp [snkN]) (by simp)
    rw [(most_sink (v := v) (p := p) (m := m) hv hp).2] at h1
    exact h1
end Go.Proofs.YtomfnldlnoiloaaDoor
