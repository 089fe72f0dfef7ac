/- GroundTurned: what stands in memory while the decks are made. -/
import Derived.Test.YtilmlgngnbokfaaTu
import Derived.Test.YtilmlgngnbokfaaBx
namespace Go.Proofs.Ytilmlgngnbokfaa
set_option linter.unusedVariables false
set_option linter.unusedSimpArgs false
open Go Go.RowKit

/-- The beams of which the first m have been looked at. -/
def wol (ls : List Int) (i : Nat) (z : Int) (m : Nat) : List Int := (List.range ls.length).map fun (j : Nat) => if j < m ∧ (j : Int) ≠ i ∧ (j : Int) ≠ (i : Int) - 1 then z else ls.getD j 0
theorem wol_length (ls : List Int) (i : Nat) (z : Int) (m : Nat) : (wol ls i z m).length = ls.length := by simp [wol]
theorem wol_zero (ls : List Int) (i : Nat) (z : Int) : wol ls i z 0 = ls := by
  refine List.ext_getElem (by simp [wol]) fun j h1 h2 => ?_
  simp [wol, List.getD, h2]
theorem wol_set {ls : List Int} {i : Nat} {z : Int} {m : Nat} (hc : (m : Int) ≠ i ∧ (m : Int) ≠ (i : Int) - 1) : (wol ls i z m).set m z = wol ls i z (m + 1) := by
  refine List.ext_getElem (by simp [wol]) fun j h1 h2 => ?_
  rw [List.getElem_set]
  by_cases e : m = j
  · subst e
    simp [wol, hc]
  · rw [if_neg e]
    simp only [wol, List.getElem_map, List.getElem_range]
    congr 1
    have : (j < m) = (j < m + 1) := by apply propext; omega
    rw [this]
theorem wol_skip {ls : List Int} {i : Nat} {z : Int} {m : Nat} (hc : ¬ ((m : Int) ≠ i ∧ (m : Int) ≠ (i : Int) - 1)) : wol ls i z m = wol ls i z (m + 1) := by
  refine List.ext_getElem (by simp [wol]) fun j h1 h2 => ?_
  simp only [wol, List.getElem_map, List.getElem_range]
  by_cases e : j = m
  · subst e
    rw [if_neg (fun h => hc h.2), if_neg (fun h => hc h.2)]
  · congr 1
    have : (j < m) = (j < m + 1) := by apply propext; omega
    rw [this]
theorem wol_all (ls : List Int) (i : Nat) (z : Int) : wol ls i z ls.length = (List.range ls.length).map fun (j : Nat) => if (j : Int) ≠ i ∧ (j : Int) ≠ (i : Int) - 1 then z else ls.getD j 0 := by
  refine List.map_congr_left fun j hj => ?_
  have := List.mem_range.1 hj
  simp [this]

structure Turn (w W : World) (bp bt bo base1 base2 base3 : Nat) (p1 p2 : Int) (dv : List Value) (tp tl olv : Value) (own wt ap pe : Int) (pv : Value) (rp rl ol : List Int) : Prop where
  low : Below w.heap.size w W
  D0 : Box W w.heap.size dv
  DP : Box W bp [I p1, I p2]
  DT : Box W bt [tp, tl, I own, I wt, I ap, I pe]
  DO : Box W bo [pv, olv, I own, I wt, I ap, I pe]
  O : W.ownsRow base1 3 1 olv ol.length (ol.map I)
  T : W.ownsRow base2 3 1 tp rp.length (rp.map I)
  L : W.ownsRow base3 3 1 tl rl.length (rl.map I)
  z1 : w.heap.size < base1 ∧ w.heap.size < bp ∧ w.heap.size < bt ∧ w.heap.size < bo
  z2 : bp < base1 ∧ bt < base1 ∧ bo < base1
  z3 : base1 ≤ base2 ∧ base2 ≤ base3 ∧ base3 ≤ W.heap.size
  z4 : bp ≠ bt ∧ bp ≠ bo ∧ bt ≠ bo
  ob : ∀ g, olv.ownBlock = some g → g < base2

section
variable {w W W' : World} {bp bt bo base1 base2 base3 : Nat} {p1 p2 : Int} {dv : List Value} {tp tl olv : Value} {own wt ap pe : Int} {pv : Value} {rp rl ol : List Int}

theorem Turn.call (h : Turn w W bp bt bo base1 base2 base3 p1 p2 dv tp tl olv own wt ap pe pv rp rl ol) (hB : Below W.heap.size W W') : Turn w W' bp bt bo base1 base2 base3 p1 p2 dv tp tl olv own wt ap pe pv rp rl ol where
  low := h.low.trans (hB.mono h.low.size)
  D0 := h.D0.call hB
  DP := h.DP.call hB
  DT := h.DT.call hB
  DO := h.DO.call hB
  O := grown_own h.O hB
  T := grown_own h.T hB
  L := grown_own h.L hB
  z1 := h.z1
  z2 := h.z2
  z3 := by have := h.z3; have := hB.size; omega
  z4 := h.z4
  ob := h.ob
theorem Turn.drew (h : Turn w W bp bt bo base1 base2 base3 p1 p2 dv tp tl olv own wt ap pe pv rp rl ol) : Turn w W.drew bp bt bo base1 base2 base3 p1 p2 dv tp tl olv own wt ap pe pv rp rl ol := h.call (Below.refl _ _).drew
theorem Turn.alloc (h : Turn w W bp bt bo base1 base2 base3 p1 p2 dv tp tl olv own wt ap pe pv rp rl ol) (o : Obj) : Turn w (W.alloc o) bp bt bo base1 base2 base3 p1 p2 dv tp tl olv own wt ap pe pv rp rl ol := h.call ((Below.refl _ _).alloc (Nat.le_refl _) _)

theorem own_far {W : World} {base n : Nat} {e : TypeId} {v u : Value} {xs : List Value} {size : Nat} {p : Addr} (h : W.ownsRow base e size v n xs) (hp : p.block < base) : (W.setCell p u).ownsRow base e size v n xs :=
  h.kept (row := some p.block) ⟨rfl, rfl, rfl, by simp, fun k hk hne => Below.heap_setCell W p u k (fun e => hne (by rw [e]))⟩ (by
    cases hv : v.ownBlock with
    | none => exact .inl rfl
    | some g => exact .inr (fun e => by have := (h.lt g hv).1; injection e with e; omega))

/-- One post more. -/
theorem Turn.post (h : Turn w W bp bt bo base1 base2 base3 p1 p2 dv tp (.slice none 0 0) olv own wt ap pe pv rp [] ol) {tp' : Value} {z : Int} (h' : W'.ownsRow base2 3 1 tp' (rp.length + 1) (rp.map I ++ [I z])) (hg : W.grownBy W' tp.ownBlock) :
    Turn w (W'.setCell ⟨bt, 0, none⟩ tp') bp bt bo base1 base2 base3 p1 p2 dv tp' (.slice none 0 0) olv own wt ap pe pv (rp ++ [z]) [] ol := by
  obtain ⟨a1, a2, a3, a4⟩ := h.z1
  obtain ⟨b1, b2, b3⟩ := h.z2
  obtain ⟨c1, c2, c3⟩ := h.z3
  obtain ⟨d1, d2, d3⟩ := h.z4
  have hrow : ∀ b, b < base2 → tp.ownBlock ≠ some b := fun b hb e => by have := (h.T.lt b e).1; omega
  have hlow : ∀ k, tp.ownBlock = some k → w.heap.size ≤ k := fun k hk => by have := (h.T.lt k hk).1; omega
  refine ⟨((h.low.grown hg (by have := h.low.size; omega) hlow)).setCell (by simp; omega) _, ?_, ?_, ?_, ?_, ?_, ?_, ?_, h.z1, h.z2, ⟨c1, c2, ?_⟩, h.z4, h.ob⟩
  · exact (h.D0.grown hg (hrow _ (by omega))).far (by simp; omega) _
  · exact (h.DP.grown hg (hrow _ (by omega))).far (by simp; omega) _
  · exact (h.DT.grown hg (hrow _ (by omega))).set 0 _
  · exact (h.DO.grown hg (hrow _ (by omega))).far (by simp; omega) _
  · refine own_far (h.O.kept hg ?_) b2
    cases hv : olv.ownBlock with
    | none => exact .inl rfl
    | some g => exact .inr (fun e => hrow g (h.ob g hv) e.symm)
  · have := own_far (p := ⟨bt, 0, none⟩) (u := tp') h' (show bt < base2 by omega)
    simpa using this
  · exact World.ownsRow_nil _ _ _ _
  · have := hg.size; simp; omega
/-- One beam more. -/
theorem Turn.beam (h : Turn w W bp bt bo base1 base2 base3 p1 p2 dv tp tl olv own wt ap pe pv rp rl ol) (htb : ∀ g, tp.ownBlock = some g → g < base3) {tl' : Value} {z : Int} (h' : W'.ownsRow base3 3 1 tl' (rl.length + 1) (rl.map I ++ [I z])) (hg : W.grownBy W' tl.ownBlock) :
    Turn w (W'.setCell ⟨bt, 1, none⟩ tl') bp bt bo base1 base2 base3 p1 p2 dv tp tl' olv own wt ap pe pv rp (rl ++ [z]) ol := by
  obtain ⟨a1, a2, a3, a4⟩ := h.z1
  obtain ⟨b1, b2, b3⟩ := h.z2
  obtain ⟨c1, c2, c3⟩ := h.z3
  obtain ⟨d1, d2, d3⟩ := h.z4
  have hrow : ∀ b, b < base3 → tl.ownBlock ≠ some b := fun b hb e => by have := (h.L.lt b e).1; omega
  have hlow : ∀ k, tl.ownBlock = some k → w.heap.size ≤ k := fun k hk => by have := (h.L.lt k hk).1; omega
  refine ⟨((h.low.grown hg (by have := h.low.size; omega) hlow)).setCell (by simp; omega) _, ?_, ?_, ?_, ?_, ?_, ?_, ?_, h.z1, h.z2, ⟨c1, c2, ?_⟩, h.z4, h.ob⟩
  · exact (h.D0.grown hg (hrow _ (by omega))).far (by simp; omega) _
  · exact (h.DP.grown hg (hrow _ (by omega))).far (by simp; omega) _
  · exact (h.DT.grown hg (hrow _ (by omega))).set 1 _
  · exact (h.DO.grown hg (hrow _ (by omega))).far (by simp; omega) _
  · refine own_far (h.O.kept hg ?_) b2
    cases hv : olv.ownBlock with
    | none => exact .inl rfl
    | some g => exact .inr (fun e => hrow g (by have := h.ob g hv; omega) e.symm)
  · refine own_far (h.T.kept hg ?_) (show bt < base2 by omega)
    cases hv : tp.ownBlock with
    | none => exact .inl rfl
    | some g => exact .inr (fun e => hrow g (htb g hv) e.symm)
  · have := own_far (p := ⟨bt, 1, none⟩) (u := tl') h' (show bt < base3 by omega)
    simpa using this
  · have := hg.size; simp; omega
/-- Another beam. -/
theorem Turn.other {go n c : Nat} (h : Turn w W bp bt bo base1 base2 base3 p1 p2 dv tp tl (.slice (some ⟨go, 0, none⟩) n c) own wt ap pe pv rp rl ol) (hn : n = ol.length) (j : Nat) (z : Int) :
    Turn w (W.setCell ⟨go, j, none⟩ (I z)) bp bt bo base1 base2 base3 p1 p2 dv tp tl (.slice (some ⟨go, 0, none⟩) n c) own wt ap pe pv rp rl (ol.set j z) := by
  subst hn
  obtain ⟨a1, a2, a3, a4⟩ := h.z1
  obtain ⟨b1, b2, b3⟩ := h.z2
  obtain ⟨c1, c2, c3⟩ := h.z3
  have hg1 := (h.O.lt go rfl).1
  have hg2 := h.ob go rfl
  refine ⟨h.low.setCell (by simp; omega) _, h.D0.far (by simp; omega) _, h.DP.far (by simp; omega) _, h.DT.far (by simp; omega) _, h.DO.far (by simp; omega) _, ?_, own_far h.T (by simpa using hg2), own_far h.L (by simp; omega), h.z1, h.z2, ⟨c1, c2, by simpa using c3⟩, h.z4, h.ob⟩
  have := (World.ownsRow.stored h.O j (I z)).1
  rw [List.map_set, List.length_set]
  exact this
end
end Go.Proofs.Ytilmlgngnbokfaa
