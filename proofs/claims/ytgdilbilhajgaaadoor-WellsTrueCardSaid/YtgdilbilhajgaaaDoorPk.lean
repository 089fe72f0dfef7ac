/- A region that draws its order: what an operation handed back is needed only until another one is done. -/
import Derived.Test.YtgdilbilhajgaaaDoorPj
namespace Go.Proofs.YtgdilbilhajgaaaDoor
set_option linter.unusedVariables false
set_option linter.unusedSimpArgs false
open Go

section
variable {F : Fence} {n : Nat} {P : Program} {ops : Array Oper} {Q : Exit → Act → World → Prop}
theorem depAll_mono {p q : Nat → Prop} (h : ∀ i, p i → q i) : ∀ l : List Edge, depAll p l → depAll q l
  | [], _ => trivial
  | e :: r, ⟨h1, h2⟩ => by
    refine ⟨?_, depAll_mono h r h2⟩
    split
    · rename_i hb
      rw [if_pos hb] at h1
      exact h _ h1
    · trivial
theorem wpIn_region_opsU {id : Nat} {a : Act} {w : World} (last : Nat → Option Nat) (ds : List (Option Tmp)) (V : Nat → Value → World → Prop) (G : Nat → World → World → Prop) (C : World → Prop) (hro : F.round = none) (hm : P.follows .mixedOrders = true)
    (hchk : chkG ops = true) (hds : ops.toList.map (·.dst) = ds) (hQ : ∀ c (d : Option Tmp) (v : Value) a w, Q (.panic c) (a.put d v) w → Q (.panic c) a w)
    (h0 : C w.drew) (hC : ∀ j W W', C W → G j W W' → C W') (hstab : ∀ i j v W W', i ≠ j → last i ≠ some j → C W → V i v W → G j W W' → V i v W')
    (hop : opsAll (fun i o => ∀ (val : Nat → Value) W, C W → depAll (fun j => (last j = none ∨ last j = some i) → V j (val j) W) o.after.toList →
      ∀ K : Act → World → Prop, (∀ v w', G i W w' → V i v w' → K ((putD val ds 0 a).put o.dst v) w') → o.wpIn F n P (putD val ds 0 a) W K Q) ops.toList 0)
    (hfin : ∀ (val : Nat → Value) W, C W → depAll (fun i => last i = none → V i (val i) W) ((List.range ops.size).map fun i => ⟨i, .data⟩) → Q .normal (putD val ds 0 a) W) : (Code.region id ops true).wpIn F n P Q a w := by
  obtain ⟨c1, c2, c3, c4⟩ := chkG_spec hchk
  have hH : chkH ops = true := by
    simp only [chkG, Bool.and_eq_true, List.all_eq_true, List.mem_range] at hchk
    simp only [chkH, Bool.and_eq_true, List.all_eq_true, List.mem_range]
    refine ⟨hchk.1, fun j hj => ?_⟩
    have := hchk.2 j hj
    rw [Array.getElem?_eq_getElem hj] at this ⊢
    simp only [Bool.and_eq_true] at this
    exact this.2
  refine wpIn_region_joint ds (fun _ => undef) (fun l val W => C W ∧ ∀ i, l i = true → (∀ j, last i = some j → l j = false) → V i (val i) W) hro hm hH hds hQ ⟨h0, fun i h => by cases h⟩ (fun i o hi l val val' W hli hv hd hJ K hK => ⟨?_, ?_⟩) (fun l val W hall hJ => ?_)
  · have hg := c3 i o hi
    unfold Region.wanted
    rw [hg]
  · have hgo := opsAll_get _ _ hop i o (by rw [Array.getElem?_toList]; exact hi)
    simp only [Nat.zero_add] at hgo
    refine hgo val' W hJ.1 (depAll_of _ (fun e he hb => ?_)) K (fun v w' hG hV => hK _ _ ⟨hC i W w' hJ.1 hG, fun k hk hlast => ?_⟩)
    · obtain ⟨h1, h2⟩ := hd e (by simpa using he) hb
      intro hl
      rw [h2]
      refine hJ.2 _ h1 (fun j hj => ?_)
      rcases hl with hl | hl
      · rw [hl] at hj; cases hj
      · rw [hl] at hj; cases hj; exact hli
    · by_cases e : k = i
      · subst e; simpa using hV
      · simp only [e, if_false]
        have hlk : l k = true := by simpa [e] using hk
        refine hstab k i _ W w' e (fun h => ?_) hJ.1 (hJ.2 k hlk (fun j hj => ?_)) hG
        · have := hlast i h
          simp at this
        · have := hlast j hj
          simp only [Bool.or_eq_false_iff] at this
          exact this.2
  · refine hfin val W hJ.1 (depAll_of _ (fun e he _ hl => ?_))
    obtain ⟨i, hi, rfl⟩ := List.mem_map.1 he
    exact hJ.2 i (hall i (List.mem_range.1 hi)) (fun j hj => by rw [hl] at hj; cases hj)
end
end Go.Proofs.YtgdilbilhajgaaaDoor
