/- The tree of mains. -/
import Derived.Test.YtgdilbilhajgaaaDoorOw
import Derived.Test.YtgdilbilhajgaaaDoorLi
import Derived.Laws.EntriesVeiled
namespace Go.Proofs.YtgdilbilhajgaaaDoor
set_option linter.unusedVariables false
set_option linter.unusedSimpArgs false
open Go Go.RowKit

theorem grownBy_set (W : World) (p : Addr) (u : Value) : W.grownBy (W.setCell p u) (some p.block) :=
  ⟨rfl, rfl, rfl, by simp, fun k hk hne => Below.heap_setCell _ _ _ _ (fun e => hne (by rw [e]))⟩
/-- KRows of numbers: row i lies in a block of its own. -/
structure KRows (W : World) (N n Fb : Nat) (R : Nat → Value) (L : Nat → List Nat) : Prop where
  lt : Fb < W.heap.size
  cell : ∀ i, i < n → W.cell? ⟨Fb, i, none⟩ = some (R i) ∧ W.frozen? ⟨Fb, i, none⟩ = false
  own : ∀ i, i < n → W.ownsRow N 3 1 (R i) (L i).length ((L i).map fun k : Nat => I (k : Int))
  off : ∀ i, i < n → (R i).ownBlock ≠ some Fb
  apart : ∀ i j g, i < n → j < n → i ≠ j → (R i).ownBlock = some g → (R j).ownBlock ≠ some g
section
variable {W W1 : World} {N n Fb : Nat} {R : Nat → Value} {L : Nat → List Nat}
theorem KRows.call (h : KRows W N n Fb R L) (hB : Below W.heap.size W W1) : KRows W1 N n Fb R L :=
  ⟨Nat.lt_of_lt_of_le h.lt hB.size, fun i hi => ⟨(hB.cell (p := ⟨_, _, none⟩) h.lt).trans (h.cell i hi).1, (hB.frozen (p := ⟨_, _, none⟩) h.lt).trans (h.cell i hi).2⟩, fun i hi => grown_own (h.own i hi) hB, h.off, h.apart⟩
theorem KRows.alloc (h : KRows W N n Fb R L) (o : Obj) : KRows (W.alloc o) N n Fb R L := h.call ((Below.refl _ _).alloc (Nat.le_refl _) o)
theorem KRows.drew (h : KRows W N n Fb R L) : KRows W.drew N n Fb R L := h.call (Below.refl _ _).drew
theorem KRows.far (h : KRows W N n Fb R L) {p : Addr} (hp : p.block < N) (hF : p.block ≠ Fb) (u : Value) : KRows (W.setCell p u) N n Fb R L :=
  ⟨by simpa using h.lt, fun i hi => ⟨(World.cell?_setCell_other _ _ _ _ (fun e => hF (by rw [e]))).trans (h.cell i hi).1, (World.frozen?_setCell _ _ _ _).trans (h.cell i hi).2⟩,
    fun i hi => (h.own i hi).kept (grownBy_set W p u) (by
      cases hv : (R i).ownBlock with
      | none => exact .inl rfl
      | some g => exact .inr (fun e => by injection e with e; have := ((h.own i hi).lt g hv).1; omega)), h.off, h.apart⟩
theorem KRows.push (h : KRows W N n Fb R L) {p : Nat} (hp : p < n) (x : Nat) {v' : Value} (hown : W1.ownsRow N 3 1 v' ((L p).length + 1) (((L p).map fun k : Nat => I (k : Int)) ++ [I x])) (hg : W.grownBy W1 (R p).ownBlock)
    (hloc : v'.ownBlock = (R p).ownBlock ∨ ∃ g, v'.ownBlock = some g ∧ W.heap.size ≤ g) :
    KRows (W1.setCell ⟨Fb, p, none⟩ v') N n Fb (fun i => if i = p then v' else R i) (fun i => if i = p then L p ++ [x] else L i) := by
  have hF : W1.heap[Fb]? = W.heap[Fb]? := hg.block Fb h.lt (fun e => h.off p hp e.symm)
  have hvF : v'.ownBlock ≠ some Fb := by
    rcases hloc with e | ⟨g, e, hge⟩
    · rw [e]; exact h.off p hp
    · rw [e]; intro e2; injection e2 with e2; have := h.lt; omega
  refine ⟨by simpa using Nat.lt_of_lt_of_le h.lt hg.size, fun i hi => ⟨?_, ?_⟩, fun i hi => ?_, fun i hi => ?_, fun i j g hi hj hij hv => ?_⟩
  · by_cases e : i = p
    · subst e
      simp only [if_true]
      exact World.cell?_setCell_same _ _ _ ((World.cell?_of_block hF).trans (h.cell i hi).1)
    · simp only [e, if_false]
      rw [World.cell?_setCell_other _ _ _ _ (by simp <;> omega)]
      exact (World.cell?_of_block hF).trans (h.cell i hi).1
  · rw [World.frozen?_setCell]
    exact (World.frozen?_of_block hF).trans (h.cell i hi).2
  · by_cases e : i = p
    · subst e
      simp only [if_true, List.length_append, List.length_cons, List.length_nil, List.map_append, List.map_cons, List.map_nil]
      exact hown.kept (grownBy_set W1 ⟨Fb, i, none⟩ v') (.inr hvF)
    · simp only [e, if_false]
      refine ((h.own i hi).kept hg ?_).kept (grownBy_set W1 ⟨Fb, p, none⟩ v') (.inr (h.off i hi))
      cases hv : (R i).ownBlock with
      | none => exact .inl rfl
      | some g => exact .inr (fun e2 => h.apart i p g hi hp e hv e2.symm)
  · by_cases e : i = p
    · simp only [e, if_true]; exact hvF
    · simp only [e, if_false]; exact h.off i hi
  · by_cases e : i = p
    · subst e
      simp only [if_true, Ne.symm hij, if_false] at hv ⊢
      rcases hloc with e | ⟨g', e, hge⟩
      · rw [e] at hv; exact h.apart i j g hi hj hij hv
      · rw [e] at hv
        injection hv with hv
        intro e2
        have := ((h.own j hj).lt g e2).2
        omega
    · by_cases ej : j = p
      · subst ej
        simp only [e, if_false, if_true] at hv ⊢
        rcases hloc with e3 | ⟨g', e3, hge⟩
        · rw [e3]; exact h.apart i j g hi hj e hv
        · rw [e3]
          intro e2
          injection e2 with e2
          have := ((h.own i hi).lt g hv).2
          omega
      · simp only [e, ej, if_false] at hv ⊢
        exact h.apart i j g hi hj hij hv
end

/-- The tree of the mains m at block T. -/
structure TreeAt (W : World) (T : Nat) (A : Option Addr) (c : Nat) (m : List (Int × Int)) : Prop where
  hT : T < W.heap.size
  ok : MOk m
  hm : Pairs W W.heap.size A m
  c0 : W.cell? ⟨T, 0, none⟩ = some (.slice A m.length c)
  fns : ∃ mb, mb < W.heap.size ∧ W.cell? ⟨mb, 0, none⟩ = some (.slice A m.length c) ∧ W.cell? ⟨T, 2, none⟩ = some (.func (.func 71) #[] #[.pointer (some ⟨mb, 0, none⟩)]) ∧ W.cell? ⟨T, 3, none⟩ = some (.func (.func 72) #[] #[.pointer (some ⟨mb, 0, none⟩)])
  from_ : ∃ Fb, Fb < W.heap.size ∧ W.cell? ⟨T, 1, none⟩ = some (.slice (some ⟨Fb, 0, none⟩) m.length m.length) ∧ ∀ i, i < m.length → ∃ RA rc, W.cell? ⟨Fb, i, none⟩ = some (.slice RA (kids m i).length rc) ∧ (kids m i).length ≤ rc ∧ rc ≤ 9223372036854775807 ∧ Ints W W.heap.size RA ((kids m i).map fun k : Nat => (k : Int))
theorem TreeAt.call {W W' : World} {T : Nat} {A : Option Addr} {c : Nat} {m : List (Int × Int)} (h : TreeAt W T A c m) (hB : Below W.heap.size W W') : TreeAt W' T A c m := by
  obtain ⟨h1, h2, h3, h4, ⟨mb, f1, f2, f3, f4⟩, ⟨Fb, g1, g2, g3⟩⟩ := h
  refine ⟨Nat.lt_of_lt_of_le h1 hB.size, h2, (h3.below hB).more hB.size, (hB.cell (p := ⟨_, _, none⟩) h1).trans h4, ⟨mb, Nat.lt_of_lt_of_le f1 hB.size, (hB.cell (p := ⟨_, _, none⟩) f1).trans f2, (hB.cell (p := ⟨_, _, none⟩) h1).trans f3, (hB.cell (p := ⟨_, _, none⟩) h1).trans f4⟩,
    ⟨Fb, Nat.lt_of_lt_of_le g1 hB.size, (hB.cell (p := ⟨_, _, none⟩) h1).trans g2, fun i hi => ?_⟩⟩
  obtain ⟨RA, rc, a1, a2, a3, a4⟩ := g3 i hi
  exact ⟨RA, rc, (hB.cell (p := ⟨_, _, none⟩) g1).trans a1, a2, a3, (a4.below hB).more hB.size⟩

/-- The kids among the first k. -/
def kidsTo (m : List (Int × Int)) (k i : Nat) : List Nat := (List.range k).filter fun j => decide (parW m j = (i : Int))
theorem kidsTo_all (m : List (Int × Int)) (i : Nat) : kidsTo m m.length i = kids m i := rfl
theorem kidsTo_zero (m : List (Int × Int)) (i : Nat) : kidsTo m 0 i = [] := rfl
theorem kidsTo_succ (m : List (Int × Int)) (k i : Nat) : kidsTo m (k + 1) i = if parW m k = (i : Int) then kidsTo m k i ++ [k] else kidsTo m k i := by
  unfold kidsTo
  rw [List.range_succ, List.filter_append]
  by_cases e : parW m k = (i : Int) <;> simp [e]
/-- One main is valid. -/
def mOk1 (m : List (Int × Int)) (k : Nat) : Prop := (k = 0 → parW m k = -1) ∧ (0 < k → 0 ≤ parW m k ∧ parW m k ≤ (k : Int) - 1) ∧ (0 ≤ limW m k ∧ limW m k ≤ 1600)
theorem mOk_of {m : List (Int × Int)} (h1 : 1 ≤ m.length) (h2 : m.length ≤ 16) (h : ∀ k, k < m.length → mOk1 m k) : MOk m :=
  ⟨h1, h2, (h 0 (by omega)).1 rfl, fun i h0 hi => (h i hi).2.1 h0, fun i hi => (h i hi).2.2⟩
theorem MOk.one {m : List (Int × Int)} (h : MOk m) (k : Nat) (hk : k < m.length) : mOk1 m k :=
  ⟨fun e => by subst e; exact h.root, fun h0 => h.par k h0 hk, h.lim k hk⟩
def NTPost (m : List (Int × Int)) (A : Option Addr) (c : Nat) (w : World) (e : Ending) (w' : World) : Prop :=
  Below w.heap.size w w' ∧ ((MOk m ∧ ∃ T, e = .returned (.pointer (some ⟨T, 0, none⟩)) ∧ w.heap.size ≤ T ∧ TreeAt w' T A c m) ∨ (¬ MOk m ∧ e = .returned (.pointer none)))
end Go.Proofs.YtgdilbilhajgaaaDoor
