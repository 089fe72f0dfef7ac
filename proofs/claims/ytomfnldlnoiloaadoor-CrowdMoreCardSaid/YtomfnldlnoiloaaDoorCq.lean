/- CrowdMore: things that lie apart in memory; the copy of a visit (closure 23). -/
import Derived.Test.YtomfnldlnoiloaaDoorF4
import Derived.Test.YtomfnldlnoiloaaDoorTh
namespace Go.Proofs.YtomfnldlnoiloaaDoor
set_option linter.unusedVariables false
set_option linter.unusedSimpArgs false
open Go Go.RowKit Go.Maps

def updT {α : Type} (f : Nat → α) (k : Nat) (a : α) : Nat → α := fun j => if j = k then a else f j
theorem updT_same {α : Type} (f : Nat → α) (k : Nat) (a : α) : updT f k a k = a := by simp [updT]
theorem updT_other {α : Type} (f : Nat → α) {k j : Nat} (a : α) (h : j ≠ k) : updT f k a j = f j := by simp [updT, h]
/-- P looks only at the blocks of S. -/
def Loc (S : Nat → Prop) (P : World → Prop) : Prop := ∀ W W', (∀ g, S g → W'.heap[g]? = W.heap[g]?) → W.heap.size ≤ W'.heap.size → P W → P W'
/-- Things that lie apart: each one in its own blocks. -/
structure Thg (N : Nat) (w4 : World) (don : Nat → Bool) (S : Nat → Nat → Prop) (P : Nat → World → Prop) (W : World) : Prop where
  low : Below N w4 W
  size : N ≤ W.heap.size
  ins : ∀ i, don i = true → ∀ g, S i g → N ≤ g ∧ g < W.heap.size
  holds : ∀ i, don i = true → P i W
  apart : ∀ i j, i ≠ j → don i = true → don j = true → ∀ g, S i g → ¬ S j g
  loc : ∀ i, don i = true → Loc (S i) (P i)
section
variable {N : Nat} {w4 W W' : World} {don : Nat → Bool} {S : Nat → Nat → Prop} {P : Nat → World → Prop}
theorem Thg.start (hN : N ≤ w4.heap.size) (S : Nat → Nat → Prop) (P : Nat → World → Prop) {don : Nat → Bool} (hd : ∀ i, don i = false) : Thg N w4 don S P w4.drew :=
  ⟨(Below.refl _ _).drew, hN, fun i h => (by rw [hd] at h; cases h), fun i h => (by rw [hd] at h; cases h), fun i j _ h => (by rw [hd] at h; cases h), fun i h => (by rw [hd] at h; cases h)⟩
/-- Thing k is made anew or turned. -/
theorem Thg.turn (h : Thg N w4 don S P W) (k : Nat) (hF : Frm W.heap.size (fun g => don k = true ∧ S k g) W W') (S' : Nat → Prop) (P' : World → Prop)
    (hS : ∀ g, S' g → (don k = true ∧ S k g) ∨ (W.heap.size ≤ g ∧ g < W'.heap.size)) (hP : P' W') (hl : Loc S' P') : Thg N w4 (fun j => j == k || don j) (updT S k S') (updT P k P') W' := by
  have hd : ∀ j, j ≠ k → (j == k || don j) = true → don j = true := fun j e h => by simpa [e] using h
  have hz := h.size
  have hz2 := hF.size
  refine ⟨h.low.trans (hF.below hz (fun g hg hs => by have := (h.ins k hs.1 g hs.2).1; omega)), by omega, fun i hi g hg => ?_, fun i hi => ?_, fun i j hij hi hj g hg hg' => ?_, fun i hi => ?_⟩
  · by_cases e : i = k
    · subst e
      rw [updT_same] at hg
      rcases hS g hg with ⟨h1, h2⟩ | h1
      · have := h.ins i h1 g h2; omega
      · omega
    · rw [updT_other _ _ e] at hg
      have := h.ins i (hd i e hi) g hg; omega
  · by_cases e : i = k
    · subst e; rw [updT_same]; exact hP
    · rw [updT_other _ _ e]
      refine h.loc i (hd i e hi) W W' (fun g hg => hF.block g (h.ins i (hd i e hi) g hg).2 (fun hs => h.apart i k e (hd i e hi) hs.1 g hg hs.2)) hz2 (h.holds i (hd i e hi))
  · have key : ∀ j, j ≠ k → (j == k || don j) = true → S' g → S j g → False := fun j e hj h1 h2 => by
      rcases hS g h1 with ⟨h3, h4⟩ | h3
      · exact h.apart k j (Ne.symm e) h3 (hd j e hj) g h4 h2
      · have := (h.ins j (hd j e hj) g h2).2; omega
    by_cases e1 : i = k
    · have e2 : j ≠ k := fun e => hij (e1.trans e.symm)
      subst e1
      rw [updT_same] at hg
      rw [updT_other _ _ e2] at hg'
      exact key j e2 hj hg hg'
    · rw [updT_other _ _ e1] at hg
      by_cases e2 : j = k
      · subst e2
        rw [updT_same] at hg'
        exact key i e1 hi hg' hg
      · rw [updT_other _ _ e2] at hg'
        exact h.apart i j hij (hd i e1 hi) (hd j e2 hj) g hg hg'
  · by_cases e : i = k
    · subst e; rw [updT_same, updT_same]; exact hl
    · rw [updT_other _ _ e, updT_other _ _ e]; exact h.loc i (hd i e hi)
theorem Thg.later (h : Thg N w4 don S P W) (hB : Below W.heap.size W W') : Thg N w4 don S P W' := by
  have hz := h.size
  have hz2 := hB.size
  refine ⟨h.low.trans (hB.mono hz), by omega, fun i hi g hg => ?_, fun i hi => ?_, h.apart, h.loc⟩
  · have := h.ins i hi g hg; omega
  · exact h.loc i hi W W' (fun g hg => hB.block g (h.ins i hi g hg).2) hz2 (h.holds i hi)
theorem Thg.congr {don' : Nat → Bool} (h : Thg N w4 don S P W) (hd : ∀ i, don' i = true → don i = true) : Thg N w4 don' S P W :=
  ⟨h.low, h.size, fun i hi => h.ins i (hd i hi), fun i hi => h.holds i (hd i hi), fun i j e hi hj => h.apart i j e (hd i hi) (hd j hj), fun i hi => h.loc i (hd i hi)⟩
end

/-- The rows of a copy. -/
structure Rows3 (N : Nat) (v : Vis) (A1 A2 A3 : Option Addr) (c1 c2 c3 : Nat) (W : World) : Prop where
  r1 : W.ownsRow N 3 1 (.slice A1 v.rm.length c1) v.rm.length (v.rm.map I)
  r2 : W.ownsRow N 51 4 (.slice A2 v.tr.length c2) v.tr.length (flat4 v.tr)
  r3 : W.ownsRow N 49 3 (.slice A3 v.ar.length c3) v.ar.length (flat3 v.ar)
/-- The blocks of a copy. -/
def Blk3 (A1 A2 A3 : Option Addr) : Nat → Prop := fun g => (∃ a, A1 = some a ∧ a.block = g) ∨ (∃ a, A2 = some a ∧ a.block = g) ∨ (∃ a, A3 = some a ∧ a.block = g)
theorem own_blk {A : Option Addr} {n c g : Nat} (h : (Value.slice A n c).ownBlock = some g) : ∃ a, A = some a ∧ a.block = g := by
  cases A with
  | none => cases h
  | some a => exact ⟨a, rfl, by simpa [Value.ownBlock] using h⟩
theorem blk_own {A : Option Addr} {n c g : Nat} (h : ∃ a, A = some a ∧ a.block = g) : (Value.slice A n c).ownBlock = some g := by
  obtain ⟨a, rfl, rfl⟩ := h
  rfl
theorem Rows3.loc {N : Nat} {v : Vis} {A1 A2 A3 : Option Addr} {c1 c2 c3 : Nat} : Loc (Blk3 A1 A2 A3) (Rows3 N v A1 A2 A3 c1 c2 c3) := fun W W' hk _ h =>
  ⟨own_at h.r1 fun g hg => hk g (.inl (own_blk hg)), own_at h.r2 fun g hg => hk g (.inr (.inl (own_blk hg))), own_at h.r3 fun g hg => hk g (.inr (.inr (own_blk hg)))⟩
theorem Rows3.ins {N : Nat} {v : Vis} {A1 A2 A3 : Option Addr} {c1 c2 c3 : Nat} {W : World} (h : Rows3 N v A1 A2 A3 c1 c2 c3 W) (g : Nat) (hg : Blk3 A1 A2 A3 g) : N ≤ g ∧ g < W.heap.size := by
  rcases hg with hg | hg | hg
  · exact h.r1.lt g (blk_own hg)
  · exact h.r2.lt g (blk_own hg)
  · exact h.r3.lt g (blk_own hg)
theorem own4_form {W : World} {base n c : Nat} {A : Option Addr} {xs : List Value} {e : TypeId} {size : Nat} (h : W.ownsRow base e size (.slice A n c) n xs) (hn : 0 < n) : ∃ g, A = some ⟨g, 0, none⟩ ∧ base ≤ g ∧ g < W.heap.size := by
  rcases own_formS h with ⟨h1, h2⟩ | ⟨g, cap, h1, h2, h3⟩
  · omega
  · injection h1 with hA _ _
    exact ⟨g, hA, h2, h3⟩
theorem Rows3.vis {N : Nat} {v : Vis} {A1 A2 A3 : Option Addr} {c1 c2 c3 : Nat} {W : World} (h : Rows3 N v A1 A2 A3 c1 c2 c3 W) : VisAt W W.heap.size v A1 A2 A3 := by
  refine ⟨fun h0 => ?_, fun h0 => ?_, fun h0 => ?_⟩
  · obtain ⟨g, rfl, _⟩ := own4_form h.r1 h0
    exact ints_own h.r1 h0
  · obtain ⟨g, rfl, _⟩ := own4_form h.r2 h0
    exact fours_own h.r2 h0
  · obtain ⟨A, c, e, h3⟩ := threes_own h.r3 rfl
    injection e with e1 _ _
    rw [e1]
    exact h3 h0
theorem own_ne {W : World} {N N' n n' size size' : Nat} {e e' : TypeId} {v v' : Value} {xs xs' : List Value} (h : W.ownsRow N e size v n xs) (h' : W.ownsRow N' e' size' v' n' xs') (hne : e ≠ e') : v.ownBlock = none ∨ v.ownBlock ≠ v'.ownBlock := by
  cases hb : v.ownBlock with
  | none => exact .inl rfl
  | some g =>
    right
    intro h2
    obtain ⟨_, c, k1⟩ := own_block h hb
    obtain ⟨_, c', k2⟩ := own_block h' h2.symm
    rw [k1] at k2
    injection k2 with k2
    injection k2 with _ k2 _
    exact hne k2
theorem own_base {W : World} {N N' n size : Nat} {e : TypeId} {v : Value} {xs : List Value} (h : W.ownsRow N e size v n xs) (hN : N' ≤ N) : W.ownsRow N' e size v n xs := by
  refine ⟨h.1, ?_⟩
  rcases h.2 with h1 | ⟨g, cap, cur, h1, h2, h3⟩
  · exact .inl h1
  · exact .inr ⟨g, cap, cur, h1, Nat.le_trans hN h2, h3⟩
theorem info51 : (Tryd.prog.info? 51).map (fun i => (i.zero, i.size, i.bytes)) = some (some (.agg #[I 0, I 0, I 0, I 0]), 4, 32) := by kernel_rfl
theorem info49 : (Tryd.prog.info? 49).map (fun i => (i.zero, i.size, i.bytes)) = some (some (.agg #[I 0, I 0, I 0]), 3, 24) := by kernel_rfl

/-- One of closure 23's three tracks: an empty row is made (l0), field k's address is taken (l1), its row is loaded (l2), appended (l3), the address again (l4), the row stored (l5). -/
structure Trk (N b : Nat) (e : TypeId) (sz : Nat) (hd : Value) (n : Nat) (cs : List Value) (k : Nat) (l0 l1 l2 l3 l4 l5 : Bool) (v0 v1 v2 v3 v4 : Value) (W : World) : Prop where
  own : l0 = true → l3 = false → W.ownsRow N e sz v0 0 []
  fa : l1 = true → v1 = .pointer (some ⟨b, k, none⟩)
  ld : l2 = true → v2 = hd
  app : l3 = true → W.ownsRow N e sz v3 n cs
  fb : l4 = true → v4 = .pointer (some ⟨b, k, none⟩)
  cell : W.cell? ⟨b, k, none⟩ = some (if l5 = true then v3 else hd) ∧ W.frozen? ⟨b, k, none⟩ = false
  ord : (l3 = true → l0 = true ∧ l2 = true) ∧ (l5 = true → l3 = true)
section
variable {N b : Nat} {e : TypeId} {sz : Nat} {hd : Value} {n : Nat} {cs : List Value} {k : Nat} {l0 l1 l2 l3 l4 l5 : Bool} {v0 v1 v2 v3 v4 : Value} {W W' : World}
theorem Trk.keep (h : Trk N b e sz hd n cs k l0 l1 l2 l3 l4 l5 v0 v1 v2 v3 v4 W) (hb : W'.heap[b]? = W.heap[b]?) (ho : ∀ v m xs, W.ownsRow N e sz v m xs → W'.ownsRow N e sz v m xs) : Trk N b e sz hd n cs k l0 l1 l2 l3 l4 l5 v0 v1 v2 v3 v4 W' :=
  ⟨fun h0 h3 => ho _ _ _ (h.own h0 h3), h.fa, h.ld, fun h3 => ho _ _ _ (h.app h3), h.fb, ⟨(World.cell?_of_block hb).trans h.cell.1, (World.frozen?_of_block hb).trans h.cell.2⟩, h.ord⟩
theorem Trk.alloc (h : Trk N b e sz hd n cs k l0 l1 l2 l3 l4 l5 v0 v1 v2 v3 v4 W) (hb : b < W.heap.size) (o : Obj) : Trk N b e sz hd n cs k l0 l1 l2 l3 l4 l5 v0 v1 v2 v3 v4 (W.alloc o) :=
  h.keep ((below1 W o).block b hb) fun _ _ _ ho => ho.alloc o
/-- Another track's row grows. -/
theorem Trk.grown {e' : TypeId} {sz' : Nat} {v' : Value} {xs' : List Value} {n' : Nat} (h : Trk N b e sz hd n cs k l0 l1 l2 l3 l4 l5 v0 v1 v2 v3 v4 W) (hb : b < W.heap.size) (hbN : b < N) (ho : W.ownsRow N e' sz' v' n' xs') (hne : e ≠ e') (hg : W.grownBy W' v'.ownBlock) :
    Trk N b e sz hd n cs k l0 l1 l2 l3 l4 l5 v0 v1 v2 v3 v4 W' :=
  h.keep (hg.block b hb (fun e2 => by have := (ho.lt b e2.symm).1; omega)) fun _ _ _ h2 => h2.kept hg (own_ne h2 ho hne)
/-- Another field is stored. -/
theorem Trk.stored {k' : Nat} (h : Trk N b e sz hd n cs k l0 l1 l2 l3 l4 l5 v0 v1 v2 v3 v4 W) (hbN : b < N) (hk : k' ≠ k) (u : Value) : Trk N b e sz hd n cs k l0 l1 l2 l3 l4 l5 v0 v1 v2 v3 v4 (W.setCell ⟨b, k', none⟩ u) :=
  have hown : ∀ v m xs, W.ownsRow N e sz v m xs → (W.setCell ⟨b, k', none⟩ u).ownsRow N e sz v m xs := fun v m xs h2 => own_at h2 fun g hg => Below.heap_setCell _ _ _ _ (by intro e2; have := (h2.lt g hg).1; first | omega | (simp at e2; omega))
  ⟨fun h0 h3 => hown _ _ _ (h.own h0 h3), h.fa, h.ld, fun h3 => hown _ _ _ (h.app h3), h.fb, ⟨(World.cell?_setCell_other _ _ _ _ (fun e => hk (by cases e; rfl))).trans h.cell.1, by rw [World.frozen?_setCell]; exact h.cell.2⟩, h.ord⟩
/-- This field is stored. -/
theorem Trk.store (h : Trk N b e sz hd n cs k l0 l1 l2 l3 l4 l5 v0 v1 v2 v3 v4 W) (hbN : b < N) (hl3 : l3 = true) : Trk N b e sz hd n cs k l0 l1 l2 l3 l4 true v0 v1 v2 v3 v4 (W.setCell ⟨b, k, none⟩ v3) :=
  have hown : ∀ v m xs, W.ownsRow N e sz v m xs → (W.setCell ⟨b, k, none⟩ v3).ownsRow N e sz v m xs := fun v m xs h2 => own_at h2 fun g hg => Below.heap_setCell _ _ _ _ (by intro e2; have := (h2.lt g hg).1; first | omega | (simp at e2; omega))
  ⟨fun h0 h3 => hown _ _ _ (h.own h0 h3), h.fa, h.ld, fun h3 => hown _ _ _ (h.app h3), h.fb, ⟨by rw [if_pos rfl]; exact World.cell?_setCell_same _ _ _ h.cell.1, by rw [World.frozen?_setCell]; exact h.cell.2⟩, h.ord.1, fun _ => hl3⟩
theorem Trk.late (h : Trk N b e sz hd n cs k l0 l1 l2 l3 l4 l5 v0 v1 v2 v3 v4 W) (hl : l2 = false ∨ l3 = false) : l5 = false := by
  cases e5 : l5 with
  | false => rfl
  | true =>
    have h3 := h.ord.2 e5
    have h2 := (h.ord.1 h3).2
    rcases hl with hl | hl
    · rw [hl] at h2; cases h2
    · rw [hl] at h3; cases h3
theorem Trk.bs (h : Trk N b e sz hd n cs k l0 l1 l2 l3 l4 l5 v0 v1 v2 v3 v4 W) (hl : l0 = false) (hN : N ≤ W.heap.size) (hb : b < W.heap.size) (hz : sz = sz) : Trk N b e sz hd n cs k true l1 l2 l3 l4 l5 (.slice (some ⟨W.heap.size, 0, none⟩) 0 0) v1 v2 v3 v4 (W.alloc (.cells #[] e)) := by
  have h' := h.alloc hb (.cells #[] e)
  have h3 : l3 = false := by
    cases e3 : l3 with
    | false => rfl
    | true => have := (h.ord.1 e3).1; rw [hl] at this; cases this
  exact ⟨fun _ _ => World.ownsRow_made W #[] 0 hN (Nat.zero_le _) (by simp), h'.fa, h'.ld, h'.app, h'.fb, h'.cell, fun e3 => (by rw [h3] at e3; cases e3), h.ord.2⟩
theorem Trk.addr (h : Trk N b e sz hd n cs k l0 l1 l2 l3 l4 l5 v0 v1 v2 v3 v4 W) : Trk N b e sz hd n cs k l0 true l2 l3 l4 l5 v0 (.pointer (some ⟨b, k, none⟩)) v2 v3 v4 W :=
  ⟨h.own, fun _ => rfl, h.ld, h.app, h.fb, h.cell, h.ord⟩
theorem Trk.load (h : Trk N b e sz hd n cs k l0 l1 l2 l3 l4 l5 v0 v1 v2 v3 v4 W) : Trk N b e sz hd n cs k l0 l1 true l3 l4 l5 v0 v1 hd v3 v4 W :=
  ⟨h.own, h.fa, fun _ => rfl, h.app, h.fb, h.cell, fun e => ⟨(h.ord.1 e).1, rfl⟩, h.ord.2⟩
theorem Trk.addr2 (h : Trk N b e sz hd n cs k l0 l1 l2 l3 l4 l5 v0 v1 v2 v3 v4 W) : Trk N b e sz hd n cs k l0 l1 l2 l3 true l5 v0 v1 v2 v3 (.pointer (some ⟨b, k, none⟩)) W :=
  ⟨h.own, h.fa, h.ld, h.app, fun _ => rfl, h.cell, h.ord⟩
theorem Trk.append (h : Trk N b e sz hd n cs k l0 l1 l2 l3 l4 false v0 v1 v2 v3 v4 W) (hl0 : l0 = true) (hl2 : l2 = true) (hl : l3 = false) (hb : b < W.heap.size) (hbN : b < N) {v' : Value} (ho : W'.ownsRow N e sz v' n cs) (hg : W.grownBy W' v0.ownBlock) :
    Trk N b e sz hd n cs k l0 l1 l2 true l4 false v0 v1 v2 v' v4 W' :=
  have hb' := hg.block b hb (fun e2 => by have := ((h.own hl0 hl).lt b e2.symm).1; omega)
  ⟨fun _ h3 => (by cases h3), h.fa, h.ld, fun _ => ho, h.fb, ⟨(World.cell?_of_block hb').trans h.cell.1, (World.frozen?_of_block hb').trans h.cell.2⟩, fun _ => ⟨hl0, hl2⟩, fun e => (by cases e)⟩
end
end Go.Proofs.YtomfnldlnoiloaaDoor
