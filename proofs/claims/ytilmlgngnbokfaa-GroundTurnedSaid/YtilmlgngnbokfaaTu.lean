/- A deck that is turned round: plain. -/
import Derived.Test.YtilmlgngnbokfaaQ
namespace Go.Proofs.Ytilmlgngnbokfaa
set_option linter.unusedVariables false
set_option linter.unusedSimpArgs false
open Go

theorem comU_comm (l r : Int) : comU l r = comU r l := by
  unfold comU
  rw [Int.mul_assoc, Int.mul_assoc, Int.mul_comm (max 1 l)]
theorem halfU_comm (l r own : Int) : halfU l r own = halfU r l own := by
  unfold halfU
  rw [Int.add_comm l r, Int.mul_comm (max 1 l)]
theorem left_right {l r wt x : Int} (hx : 1 ≤ l) : leftV l r wt x = rightV r l wt x := by
  unfold leftV rightV
  rw [comU_comm r l, show max 1 l = l by omega]
theorem left_zero (l r wt : Int) : leftV l r wt 0 = wt * comU l r := by
  have : max 1 l * (comU l r / max 1 l) = comU l r := Int.mul_ediv_cancel' ⟨2 * max 1 r, by unfold comU; rw [Int.mul_comm 2 (max 1 l), Int.mul_assoc]⟩
  unfold leftV
  rw [show max 1 l - 0 = max 1 l by simp, Int.mul_assoc, this]
/-- To the left of a post as to the right of its mirror. -/
theorem ups_lr {l r wt ap x : Int} (hl : 0 ≤ l) (hx : 1 ≤ x) : (upsF ap (max 1 l) x).map (leftV l r wt) = (upsF ap l x).map (rightV r l wt) := by
  by_cases h : 1 ≤ l
  · rw [show max 1 l = l by omega]
    exact List.map_congr_left fun y _ => left_right h
  · rw [upsF_nil (by omega), upsF_nil (by omega)]; rfl
/-- The persons as they stand in the mirror. -/
theorem vals_turn {l r wt ap : Int} (hl : 0 ≤ l) (hr : 0 ≤ r) (hap : 1 ≤ ap) (off : Int) (h0 : 0 ≤ off) (h1 : off < ap) :
    (valsU l r wt ap off).Perm (valsU r l wt ap (if off = 0 then 0 else ap - off)) := by
  rw [vals_eq, vals_eq]
  by_cases e : off = 0
  · subst e
    simp only [if_true]
    rw [upsF_cons hap (show (0 : Int) < max 1 l by omega), upsF_cons hap (show (0 : Int) < max 1 r by omega)]
    simp only [List.map_cons, List.cons_append, Int.zero_add, Int.sub_zero]
    rw [left_zero, left_zero, comU_comm r l, ups_lr hl hap, ups_lr hr hap]
    exact List.Perm.cons _ List.perm_append_comm
  · rw [if_neg e, ups_lr hl (show 1 ≤ off by omega), ups_lr hr (show 1 ≤ ap - off by omega), show ap - (ap - off) = off by omega]
    exact List.perm_append_comm
theorem best_turn_le {l r wt ap pe : Int} (hl : 0 ≤ l ∧ l ≤ 200) (hr : 0 ≤ r ∧ r ≤ 200) (hwt : 0 ≤ wt ∧ wt ≤ 500) (hap : 1 ≤ ap ∧ ap ≤ 400) : bestU l r wt ap pe ap.toNat ≤ bestU r l wt ap pe ap.toNat := by
  refine best_le _ _ (best_nonneg _) fun off ho => ?_
  have hp := vals_turn (wt := wt) hl.1 hr.1 hap.1 (off : Int) (by omega) (by omega)
  have n1 := vals_nonneg (off := (off : Int)) hl hr ⟨by omega, by omega⟩ hwt hap
  have hm : 0 ≤ (if (off : Int) = 0 then 0 else ap - (off : Int)) ∧ (if (off : Int) = 0 then 0 else ap - (off : Int)) < ap := by split <;> omega
  have n2 := vals_nonneg (off := (if (off : Int) = 0 then 0 else ap - (off : Int))) hr hl hm hwt hap
  rw [topS_bs _ _ n1, bs_perm hp, ← topS_bs _ _ n2]
  have hk : (if (off : Int) = 0 then 0 else ap - (off : Int)) = (((if (off : Int) = 0 then 0 else ap - (off : Int)).toNat : Nat) : Int) := by omega
  rw [hk]
  exact le_best _ _ (by omega)
theorem best_turn {l r wt ap pe : Int} (hl : 0 ≤ l ∧ l ≤ 200) (hr : 0 ≤ r ∧ r ≤ 200) (hwt : 0 ≤ wt ∧ wt ≤ 500) (hap : 1 ≤ ap ∧ ap ≤ 400) : bestU l r wt ap pe ap.toNat = bestU r l wt ap pe ap.toNat :=
  Int.le_antisymm (best_turn_le hl hr hwt hap) (best_turn_le hr hl hwt hap)

theorem pres_of {d d' : Deck} {c c' : Int} (h : d.ok c) (h' : d'.ok c') (i j : Nat) (h1 : d'.own = d.own ∧ d'.weight = d.weight ∧ d'.apart = d.apart ∧ d'.persons = d.persons)
    (h2 : (leftOf d'.lengths j = leftOf d.lengths i ∧ rightOf d'.lengths j = rightOf d.lengths i) ∨ (leftOf d'.lengths j = rightOf d.lengths i ∧ rightOf d'.lengths j = leftOf d.lengths i)) : pres d' j = pres d i := by
  obtain ⟨hl, hr⟩ := beam_bd h i
  have o := h
  obtain ⟨_, _, _, _, _, _, o5, o6, _⟩ := o
  obtain ⟨e1, e2, e3, e4⟩ := h1
  have hC : presC d' j = presC d i := by
    unfold presC
    rcases h2 with ⟨a, b⟩ | ⟨a, b⟩
    · rw [a, b]
    · rw [a, b]; exact comU_comm _ _
  have hN : presN d' j = presN d i := by
    have k1 : presN d i = bestU (leftOf d.lengths i) (rightOf d.lengths i) d.weight d.apart d.persons d.apart.toNat + halfU (leftOf d.lengths i) (rightOf d.lengths i) d.own := by
      rw [best_all hl hr o5 o6]; rfl
    have k2 : presN d' j = bestU (leftOf d'.lengths j) (rightOf d'.lengths j) d'.weight d'.apart d'.persons d'.apart.toNat + halfU (leftOf d'.lengths j) (rightOf d'.lengths j) d'.own := by
      obtain ⟨hl', hr'⟩ := beam_bd h' j
      obtain ⟨_, _, _, _, _, _, q5, q6, _⟩ := h'
      rw [best_all hl' hr' q5 q6]; rfl
    rw [k1, k2, e1, e2, e3, e4]
    rcases h2 with ⟨a, b⟩ | ⟨a, b⟩
    · rw [a, b]
    · rw [a, b, halfU_comm, best_turn hl hr o5 o6]
  unfold pres
  rw [hC, hN]

/-- The deck turned round. -/
def Deck.turn (d : Deck) : Deck := { d with posts := d.posts.reverse, lengths := d.lengths.reverse }
theorem Deck.turn_ok {d : Deck} {c : Int} (h : d.ok c) : d.turn.ok c := by
  obtain ⟨a1, a2, a3, a4, a5, a6⟩ := h
  refine ⟨by simpa [Deck.turn] using a1, by simpa [Deck.turn] using a2, by simpa [Deck.turn] using a3, fun k hk => ?_, fun k hk => ?_, a6⟩
  · have : d.posts.reverse[k]'hk ∈ d.posts := List.mem_reverse.1 (List.getElem_mem _)
    obtain ⟨i, hi, e⟩ := List.mem_iff_getElem.1 this
    rw [show d.turn.posts[k]'hk = d.posts.reverse[k]'hk from rfl, ← e]
    exact a4 i hi
  · have : d.lengths.reverse[k]'hk ∈ d.lengths := List.mem_reverse.1 (List.getElem_mem _)
    obtain ⟨i, hi, e⟩ := List.mem_iff_getElem.1 this
    rw [show d.turn.lengths[k]'hk = d.lengths.reverse[k]'hk from rfl, ← e]
    exact a5 i hi
theorem getD_rev (ls : List Int) (k : Nat) : ls.reverse.getD k 0 = if k < ls.length then ls.getD (ls.length - 1 - k) 0 else 0 := by
  rw [List.getD_eq_getElem?_getD, List.getD_eq_getElem?_getD]
  by_cases h : k < ls.length
  · rw [if_pos h, List.getElem?_reverse h]
  · rw [if_neg h, List.getElem?_eq_none (by simp; omega)]; rfl
theorem turn_beams (ls : List Int) (i : Nat) (hi : i ≤ ls.length) : leftOf ls.reverse (ls.length - i) = rightOf ls i ∧ rightOf ls.reverse (ls.length - i) = leftOf ls i := by
  unfold leftOf rightOf
  constructor
  · by_cases h : ls.length - i = 0
    · rw [if_pos h, List.getD_eq_getElem?_getD, List.getElem?_eq_none (by omega)]; rfl
    · rw [if_neg h, getD_rev, if_pos (by omega)]
      congr 1
      omega
  · rw [getD_rev]
    by_cases h : i = 0
    · rw [if_pos h, if_neg (by omega)]
    · rw [if_neg h, if_pos (by omega)]
      congr 1
      omega
theorem pres_turn {d : Deck} {c : Int} (h : d.ok c) (i : Nat) (hi : i < d.posts.length) : pres d.turn (d.posts.length - 1 - i) = pres d i := by
  have hl := h.2.2.1
  have hb := turn_beams d.lengths i (by omega)
  refine pres_of h (Deck.turn_ok h) i _ ⟨rfl, rfl, rfl, rfl⟩ (.inr ?_)
  rw [show d.posts.length - 1 - i = d.lengths.length - i by omega]
  exact hb

/-- Other beams that do not end at post i. -/
def Deck.wo (d : Deck) (i : Nat) (z : Int) : Deck := { d with lengths := (List.range d.lengths.length).map fun (k : Nat) => if (k : Int) ≠ i ∧ (k : Int) ≠ (i : Int) - 1 then z else d.lengths.getD k 0 }
theorem Deck.wo_ok {d : Deck} {c : Int} (h : d.ok c) (i : Nat) (z : Int) (hz : 1 ≤ z ∧ z ≤ 200) : (d.wo i z).ok c := by
  obtain ⟨a1, a2, a3, a4, a5, a6⟩ := h
  refine ⟨a1, a2, by simpa [Deck.wo] using a3, a4, fun k hk => ?_, a6⟩
  have hk' : k < d.lengths.length := by simpa [Deck.wo] using hk
  have : (d.wo i z).lengths[k] = if (k : Int) ≠ i ∧ (k : Int) ≠ (i : Int) - 1 then z else d.lengths.getD k 0 := by simp [Deck.wo]
  rw [this]
  split
  · exact hz
  · rw [List.getD_eq_getElem?_getD, List.getElem?_eq_getElem hk']
    exact a5 k hk'
theorem wo_get (d : Deck) (i : Nat) (z : Int) (k : Nat) : (d.wo i z).lengths.getD k 0 = if k < d.lengths.length then (if (k : Int) ≠ i ∧ (k : Int) ≠ (i : Int) - 1 then z else d.lengths.getD k 0) else 0 := by
  rw [List.getD_eq_getElem?_getD]
  by_cases h : k < d.lengths.length
  · rw [if_pos h]
    simp [Deck.wo, h]
  · rw [if_neg h, List.getElem?_eq_none (by simp [Deck.wo]; omega)]; rfl
theorem pres_wo {d : Deck} {c : Int} (h : d.ok c) (i : Nat) (hi : i < d.posts.length) (z : Int) (hz : 1 ≤ z ∧ z ≤ 200) : pres (d.wo i z) i = pres d i := by
  refine pres_of h (Deck.wo_ok h i z hz) i i ⟨rfl, rfl, rfl, rfl⟩ (.inl ⟨?_, ?_⟩)
  · unfold leftOf
    by_cases h0 : i = 0
    · rw [if_pos h0, if_pos h0]
    · rw [if_neg h0, if_neg h0, wo_get]
      have hl := h.2.2.1
      rw [if_pos (by omega), if_neg (by omega)]
  · unfold rightOf
    rw [wo_get]
    by_cases h1 : i < d.lengths.length
    · rw [if_pos h1, if_neg (by omega)]
    · rw [if_neg h1, List.getD_eq_getElem?_getD, List.getElem?_eq_none (by omega)]; rfl
end Go.Proofs.Ytilmlgngnbokfaa
