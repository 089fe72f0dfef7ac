/- The plain laws of GroundLess: lighter, farther apart, firmer, one sounding more. -/
import Derived.Test.YtilmlgngnbokfaaQ
import Derived.Test.YtilmlgngnbokfaaC2
import Derived.Test.YtilmlgngnbokfaaMo
namespace Go.Proofs.Ytilmlgngnbokfaa
set_option linter.unusedVariables false
set_option linter.unusedSimpArgs false
open Go.RowKit

def Deck.wt (d : Deck) (n : Int) : Deck := { d with weight := n }
def Deck.ow (d : Deck) (n : Int) : Deck := { d with own := n }
theorem Deck.wt_ok {d : Deck} {c n : Int} (h : d.ok c) (hn : 0 ≤ n ∧ n ≤ 500) : (d.wt n).ok c := by
  obtain ⟨o1, o2, o3, o4, o5, o6, o7, o8, o9⟩ := h
  exact ⟨o1, o2, o3, o4, o5, o6, hn, o8, o9⟩
theorem Deck.ow_ok {d : Deck} {c n : Int} (h : d.ok c) (hn : 0 ≤ n ∧ n ≤ 100) : (d.ow n).ok c := by
  obtain ⟨o1, o2, o3, o4, o5, o6, o7, o8, o9⟩ := h
  exact ⟨o1, o2, o3, o4, o5, hn, o7, o8, o9⟩

theorem dm_map {f g : Int → Int} : ∀ xs : List Int, (∀ x ∈ xs, f x ≤ g x) → Dm (xs.map f) (xs.map g)
  | [], _ => .nil
  | x :: xs, h => .cons (h x (by simp)) (dm_map xs fun y hy => h y (by simp [hy]))

section
variable {l r ap pe off : Int}
theorem vals_wt (hl : 0 ≤ l ∧ l ≤ 200) (hr : 0 ≤ r ∧ r ≤ 200) (hap : 1 ≤ ap) {wt wt' : Int} (h : wt' ≤ wt) : Dm (valsU l r wt' ap off) (valsU l r wt ap off) := by
  have hC := comU_bd hl hr
  rw [vals_eq, vals_eq]
  refine (dm_map _ fun x hx => ?_).append (dm_map _ fun x hx => ?_)
  · have := mem_upsF hap hx
    exact Int.mul_le_mul_of_nonneg_right (Int.mul_le_mul_of_nonneg_right h (by omega)) (Int.ediv_nonneg (by omega) (by omega))
  · have := mem_upsF hap hx
    exact Int.mul_le_mul_of_nonneg_right (Int.mul_le_mul_of_nonneg_right h (by omega)) (Int.ediv_nonneg (by omega) (by omega))
theorem best_wt (hl : 0 ≤ l ∧ l ≤ 200) (hr : 0 ≤ r ∧ r ≤ 200) (hap : 1 ≤ ap ∧ ap ≤ 400) {wt wt' : Int} (h0 : 0 ≤ wt') (h : wt' ≤ wt) (hwt : wt ≤ 500) (k : Nat) (hk : (k : Int) ≤ ap) :
    bestU l r wt' ap pe k ≤ bestU l r wt ap pe k := by
  refine best_le _ _ (best_nonneg _) (fun off ho => ?_)
  refine Int.le_trans ?_ (le_best _ off ho)
  rw [topS_bs _ _ (vals_nonneg hl hr ⟨by omega, by omega⟩ ⟨h0, by omega⟩ hap), topS_bs _ _ (vals_nonneg hl hr ⟨by omega, by omega⟩ ⟨by omega, hwt⟩ hap)]
  exact (vals_wt hl hr hap.1 h).bs _
end
theorem presN_wt {d : Deck} {c n : Int} (h : d.ok c) (h0 : 0 ≤ n) (hn : n ≤ d.weight) (i : Nat) : presN (d.wt n) i ≤ presN d i := by
  obtain ⟨hl, hr⟩ := beam_bd h i
  obtain ⟨o1, o2, o3, _, _, o4, o5, o6, o7⟩ := h
  have := best_wt (pe := d.persons) hl hr o6 h0 hn o5.2 (min d.apart (max (leftOf d.lengths i) (rightOf d.lengths i) + 1)).toNat (by omega)
  show bestU _ _ _ _ _ _ + halfU _ _ _ ≤ bestU _ _ _ _ _ _ + halfU _ _ _
  simp only [Deck.wt] at *
  omega
theorem presN_ow {d : Deck} {c n : Int} (h : d.ok c) (hn : n ≤ d.own) (i : Nat) : presN (d.ow n) i ≤ presN d i := by
  obtain ⟨hl, hr⟩ := beam_bd h i
  have h2 : halfU (leftOf d.lengths i) (rightOf d.lengths i) n ≤ halfU (leftOf d.lengths i) (rightOf d.lengths i) d.own := by
    unfold halfU
    refine Int.mul_le_mul_of_nonneg_right (Int.mul_le_mul_of_nonneg_right hn (by omega)) (Int.mul_nonneg (by omega) (by omega))
  show bestU _ _ _ _ _ _ + halfU _ _ _ ≤ bestU _ _ _ _ _ _ + halfU _ _ _
  simp only [Deck.ow] at *
  omega

/-- Fractions over one denominator. -/
theorem rep_less {C n d m e s t : Int} (hC : 0 < C) (h1 : Rep C (n, d) s) (h2 : Rep C (m, e) t) (h : s ≤ t) : n * e ≤ m * d := by
  have hc := cmp_rep hC h1 h2
  unfold cmpI at hc
  split at hc
  · omega
  · split at hc
    · rename_i h3 h4
      rw [if_neg (by omega)] at hc
      split at hc
      · omega
      · simp at hc
    · omega

theorem bears_ice {d : Deck} {c firm firm' : Int} {cr cr' : List (Int × Int)} (h : d.ok c) (hice : ∀ i, i < d.posts.length → iceOf d cr firm i ≤ iceOf d cr' firm' i) (hb : bearsB d cr firm = true) : bearsB d cr' firm' = true := by
  unfold bearsB at *
  simp only [decide_eq_true_eq] at *
  by_cases h0 : brkI d cr' firm' < 0
  · exact h0
  · exfalso
    have := idxI_mono (q := brk d cr firm) (p := brk d cr' firm') (xs := List.range d.posts.length) (fun i hi' hi => by
      unfold brk at *
      simp only [decide_eq_true_eq] at *
      have h1 := hice i (List.mem_range.1 hi')
      have h2 := (pres_bd h i (List.mem_range.1 hi')).1
      have := Int.mul_le_mul_of_nonneg_right h1 (show 0 ≤ presC d i by omega)
      omega) (by unfold brkI at h0; exact Int.not_lt.1 h0)
    unfold brkI at hb
    omega
theorem sq_mono {firm firm' t t' : Int} (h0 : 0 ≤ firm) (h : firm ≤ firm') (ht : 0 ≤ t) (htt : t ≤ t') : firm * t * t ≤ firm' * t' * t' := by
  have h1 : firm * t ≤ firm' * t' := Int.mul_le_mul h htt ht (by omega)
  exact Int.mul_le_mul h1 htt ht (Int.mul_nonneg (by omega) (by omega))
theorem cut1_lo (cr : List (Int × Int)) (s : Int × Int × Int) (i : Nat) : (cr.getD i (0, 0)).1 ≤ ((cut1 cr s).getD i (0, 0)).1 := by
  unfold cut1
  simp only [List.getD, List.getElem?_modify]
  by_cases e : s.1.toNat = i
  · subst e
    cases h : cr[s.1.toNat]? with
    | none => simp
    | some p => simp; omega
  · cases h : cr[i]? with
    | none => simp
    | some p => simp [e]
theorem lo_nonneg {cr : List (Int × Int)} (h : ∀ k (h : k < cr.length), 0 ≤ cr[k].1 ∧ cr[k].1 ≤ 500) (i : Nat) : 0 ≤ (cr.getD i (0, 0)).1 := by
  by_cases hi : i < cr.length
  · have := h i hi
    simp [List.getD, hi]; omega
  · simp [List.getD, List.getElem?_eq_none (Nat.le_of_not_lt hi)]

/-- A firmer ground. -/
theorem bears_firm {d : Deck} {c firm firm' : Int} {cr : List (Int × Int)} (h : d.ok c) (hlo : ∀ k (h : k < cr.length), 0 ≤ cr[k].1 ∧ cr[k].1 ≤ 500) (h0 : 0 ≤ firm) (hf : firm ≤ firm') (hb : bearsB d cr firm = true) : bearsB d cr firm' = true :=
  bears_ice h (fun i _ => sq_mono h0 hf (lo_nonneg hlo _) (Int.le_refl _)) hb
/-- One sounding more. -/
theorem bears_more {d : Deck} {c firm : Int} {cr : List (Int × Int)} (h : d.ok c) (hlo : ∀ k (h : k < cr.length), 0 ≤ cr[k].1 ∧ cr[k].1 ≤ 500) (h0 : 0 ≤ firm) (s : Int × Int × Int) (hb : bearsB d cr firm = true) : bearsB d (cut1 cr s) firm = true :=
  bears_ice h (fun i _ => sq_mono h0 (Int.le_refl _) (lo_nonneg hlo _) (cut1_lo _ _ _)) hb

def Grd.fm (g : Grd) (n : Int) : Grd := { g with firm := n }

/-- What Breaks answers: a number and an error. -/
theorem brk_v {g : Grd} {l : List (Int × Int × Int)} {d : Deck} {e : Ending} (h : BrkPost g l d e) : ∃ a b, e = .returned (.tuple #[I a, I b]) := by
  rcases h with ⟨_, h⟩ | ⟨_, _, h⟩ | ⟨_, _, _, h⟩ | ⟨_, _, _, h⟩ <;> exact ⟨_, _, h⟩
theorem brk_none {g : Grd} {l : List (Int × Int × Int)} {d : Deck} {e : Ending} (h : BrkPost g l d e) (ha : AllOk g l d) (hw : wrongI g.radar l < 0) (hb : bearsB d (crustL g.radar l) g.firm = true) : e = .returned (.tuple #[I 0, I 4]) := by
  have hb' : brkI d (crustL g.radar l) g.firm < 0 := by simpa [bearsB] using hb
  rcases h with ⟨h, _⟩ | ⟨_, h, _⟩ | ⟨_, _, h, _⟩ | ⟨_, _, _, h⟩
  · exact absurd ha h
  · omega
  · omega
  · exact h
theorem brk_some {g : Grd} {l : List (Int × Int × Int)} {d : Deck} {e : Ending} (h : BrkPost g l d e) (ha : AllOk g l d) (hw : wrongI g.radar l < 0) (hb : bearsB d (crustL g.radar l) g.firm = false) : e = .returned (.tuple #[I (brkI d (crustL g.radar l) g.firm), I 0]) := by
  have hb' : ¬ brkI d (crustL g.radar l) g.firm < 0 := by simpa [bearsB] using hb
  rcases h with ⟨h, _⟩ | ⟨_, h, _⟩ | ⟨_, _, _, h⟩ | ⟨_, _, h, _⟩
  · exact absurd ha h
  · omega
  · exact h
  · omega
/-- With one sounding more it does not begin to break. -/
theorem brk_more {g : Grd} {l : List (Int × Int × Int)} {d : Deck} {e : Ending} {s : Int × Int × Int} (h : BrkPost g (l ++ [s]) d e) (ha : AllOk g l d) (hb : bearsB d (crustL g.radar l) g.firm = true) : ∃ a b, e = .returned (.tuple #[I a, I b]) ∧ b ≠ 0 := by
  rcases h with ⟨_, h⟩ | ⟨_, _, h⟩ | ⟨_, _, h, _⟩ | ⟨_, _, _, h⟩
  · exact ⟨_, _, h, by decide⟩
  · exact ⟨_, _, h, by decide⟩
  · exfalso
    have hlo := crust_lo g.radar ha.1.1.2.2.2.2 l (fun k h => (ha.1.2.2 k h).2)
    have := bears_more ha.2 hlo (by have := ha.1.1.2.1; omega) s hb
    have e1 : crustL g.radar (l ++ [s]) = cut1 (crustL g.radar l) s := by unfold crustL; rw [List.foldl_append]; rfl
    rw [e1] at h
    have : brkI d (cut1 (crustL g.radar l) s) g.firm < 0 := by simpa [bearsB] using this
    omega
  · exact ⟨_, _, h, by decide⟩
theorem all_firm {g : Grd} {l : List (Int × Int × Int)} {d : Deck} {n : Int} (h : AllOk g l d) (hn : 1 ≤ n ∧ n ≤ 100) : AllOk (g.fm n) l d := by
  obtain ⟨⟨⟨o1, o2, o3⟩, o4⟩, o5⟩ := h
  exact ⟨⟨⟨o1, hn, o3⟩, o4⟩, o5⟩
end Go.Proofs.Ytilmlgngnbokfaa
