/- postOf; Load. -/
import Derived.Test.YtilmlgngnbokfaaV4
import Derived.Test.YtilmlgngnbokfaaLd
namespace Go.Proofs.Ytilmlgngnbokfaa
set_option linter.unusedVariables false
set_option linter.unusedSimpArgs false
open Go.RowKit

/-- The beams that end at post i. -/
def leftOf (ls : List Int) (i : Nat) : Int := if i = 0 then 0 else ls.getD (i - 1) 0
def rightOf (ls : List Int) (i : Nat) : Int := ls.getD i 0

theorem postOf_any (bd od : Nat) (Al : Option Addr) (cl : Nat) (ls : List Int) (i : Nat) (w : World) (hbd : bd < w.heap.size)
    (c1 : w.cell? ⟨bd, od + 1, none⟩ = some (.slice Al ls.length cl)) (hl : Ints w w.heap.size Al ls) (hll : ls.length ≤ 1000) (hi : i ≤ ls.length) :
    Calls Try.prog 39 #[.pointer (some ⟨bd, od, none⟩), I i] w fun e w' => e = .returned (.agg #[.pointer (some ⟨bd, od, none⟩), I (leftOf ls i), I (rightOf ls i)]) ∧ Below w.heap.size w w' := by
  have hbd1 : bd < w.heap.size + 1 := by omega
  by_cases h0 : i = 0
  · subst h0
    have hL : leftOf ls 0 = 0 := rfl
    by_cases h1 : 0 < ls.length
    · obtain ⟨b, off, rfl, hb, hcs⟩ := hl h1
      have hb1 : b < w.heap.size + 1 := by omega
      have hc0 := hcs 0 h1
      have hR : rightOf ls 0 = ls[0] := by simp [rightOf, List.getD, h1]
      rw [hL, hR]
      clear hcs hL hR
      simp only [Nat.add_zero] at hc0
      go_enter Try.func39, Try.ntmps39
      go_wp2
      refine bodyPost_ret (v := .agg #[.pointer (some ⟨bd, od, none⟩), I 0, I ls[0]]) (by simp [results, Try.results39, go_sem]) rfl ⟨rfl, by (repeat' (first | assumption | exact Below.refl _ _ | refine Below.drew ?_ | refine below_drewN ?_ _ | refine Below.setCell ?_ (by first | omega | (simp; done) | (simp; omega)) _ | refine Below.alloc ?_ (by first | omega | (simp; done) | (simp; omega)) _ | refine Below.trans ?_ (Below.mono (by assumption) (by first | omega | (simp; done) | (simp; omega)))))⟩
    · have hR : rightOf ls 0 = 0 := by simp [rightOf, List.getD, show ls.length = 0 by omega]
      rw [hL, hR]
      clear hL hR
      go_enter Try.func39, Try.ntmps39
      go_wp2
      refine bodyPost_ret (v := .agg #[.pointer (some ⟨bd, od, none⟩), I 0, I 0]) (by simp [results, Try.results39, go_sem]) rfl ⟨rfl, by (repeat' (first | assumption | exact Below.refl _ _ | refine Below.drew ?_ | refine below_drewN ?_ _ | refine Below.setCell ?_ (by first | omega | (simp; done) | (simp; omega)) _ | refine Below.alloc ?_ (by first | omega | (simp; done) | (simp; omega)) _ | refine Below.trans ?_ (Below.mono (by assumption) (by first | omega | (simp; done) | (simp; omega)))))⟩
  · obtain ⟨j, rfl⟩ : ∃ j, i = j + 1 := ⟨i - 1, by omega⟩
    obtain ⟨b, off, rfl, hb, hcs⟩ := hl (by omega)
    have hb1 : b < w.heap.size + 1 := by omega
    have hcj := hcs j (by omega)
    have hL : leftOf ls (j + 1) = ls[j] := by simp [leftOf, List.getD, show j < ls.length by omega]
    by_cases h1 : j + 1 < ls.length
    · have hc1 := hcs (j + 1) h1
      have hR : rightOf ls (j + 1) = ls[j + 1] := by simp [rightOf, List.getD, h1]
      rw [hL, hR]
      clear hcs hL hR
      go_enter Try.func39, Try.ntmps39
      go_wp2
      refine bodyPost_ret (v := .agg #[.pointer (some ⟨bd, od, none⟩), I ls[j], I ls[j + 1]]) (by simp [results, Try.results39, go_sem]) rfl ⟨rfl, by (repeat' (first | assumption | exact Below.refl _ _ | refine Below.drew ?_ | refine below_drewN ?_ _ | refine Below.setCell ?_ (by first | omega | (simp; done) | (simp; omega)) _ | refine Below.alloc ?_ (by first | omega | (simp; done) | (simp; omega)) _ | refine Below.trans ?_ (Below.mono (by assumption) (by first | omega | (simp; done) | (simp; omega)))))⟩
    · have hR : rightOf ls (j + 1) = 0 := by simp [rightOf, List.getD, show ls[j + 1]? = none by simp; omega]
      rw [hL, hR]
      clear hcs hL hR
      go_enter Try.func39, Try.ntmps39
      go_wp2
      refine bodyPost_ret (v := .agg #[.pointer (some ⟨bd, od, none⟩), I ls[j], I 0]) (by simp [results, Try.results39, go_sem]) rfl ⟨rfl, by (repeat' (first | assumption | exact Below.refl _ _ | refine Below.drew ?_ | refine below_drewN ?_ _ | refine Below.setCell ?_ (by first | omega | (simp; done) | (simp; omega)) _ | refine Below.alloc ?_ (by first | omega | (simp; done) | (simp; omega)) _ | refine Below.trans ?_ (Below.mono (by assumption) (by first | omega | (simp; done) | (simp; omega)))))⟩

theorem beam_bd {d : Deck} {cells : Int} (h : d.ok cells) (i : Nat) : (0 ≤ leftOf d.lengths i ∧ leftOf d.lengths i ≤ 200) ∧ (0 ≤ rightOf d.lengths i ∧ rightOf d.lengths i ≤ 200) := by
  obtain ⟨_, _, _, _, hx, _⟩ := h
  have key : ∀ j, 0 ≤ d.lengths.getD j 0 ∧ d.lengths.getD j 0 ≤ 200 := fun j => by
    rw [List.getD_eq_getElem?_getD]
    by_cases hj : j < d.lengths.length
    · have := hx j hj
      rw [List.getElem?_eq_getElem hj]
      simp
      omega
    · rw [List.getElem?_eq_none (by omega)]
      simp
  refine ⟨?_, key i⟩
  unfold leftOf
  split
  · simp
  · exact key _

/-- The pressure of a post. -/
def presN (d : Deck) (i : Nat) : Int := loadU (leftOf d.lengths i) (rightOf d.lengths i) d.own d.weight d.apart d.persons
def presC (d : Deck) (i : Nat) : Int := comU (leftOf d.lengths i) (rightOf d.lengths i)
def pres (d : Deck) (i : Nat) : Int × Int := (presN d i / gcdI (presN d i) (presC d i), presC d i / gcdI (presN d i) (presC d i))
open Classical in
/-- What Load hands back. -/
noncomputable def loadRes (d : Deck) (i : Int) : (Int × Int) × Int :=
  if d.ok 400 then (if 0 ≤ i ∧ i ≤ (d.posts.length : Int) - 1 then (pres d i.toNat, 0) else ((0, 0), 2)) else ((0, 0), 1)
/-- A fraction and an error. -/
def prV (r : (Int × Int) × Int) : Value := .tuple #[.agg #[I r.1.1, I r.1.2], I r.2]

set_option maxRecDepth 100000 in
set_option maxHeartbeats 1000000 in
theorem Load_any (Ap Al : Option Addr) (cp cl : Nat) (d : Deck) (i : Int) (w : World)
   (hp : Ints w w.heap.size Ap d.posts) (hl : Ints w w.heap.size Al d.lengths) (hpl : d.posts.length ≤ 9223372036854775807) (hll : d.lengths.length ≤ 9223372036854775807) :
    Calls Try.prog 14 #[d.val Ap Al cp cl, I i] w fun e w' => e = .returned (prV (loadRes d i)) ∧ Below w.heap.size w w' := by
  have hD : ∀ W, Below w.heap.size w W → Calls Try.prog 37 #[d.val Ap Al cp cl, I 400] W (RetB (d.ok 400) W) := fun W hB =>
    isDeck_any Ap Al cp cl d 400 W ((hp.below hB).more hB.size) ((hl.below hB).more hB.size) hpl hll (by omega)
  by_cases hok : d.ok 400
  · by_cases hi : 0 ≤ i ∧ i ≤ (d.posts.length : Int) - 1
    · obtain ⟨k, rfl⟩ := Int.eq_ofNat_of_zero_le hi.1
      have hres : loadRes d k = (pres d k, 0) := by unfold loadRes; rw [if_pos hok, if_pos hi]; simp
      rw [hres]
      clear hres
      have hk1 : (k : Int) ≤ (d.posts.length : Int) - 1 := hi.2
      have hbe := beam_bd hok k
      have hok' := Lib.hid hok
      obtain ⟨o1, o2, o3, _, _, o4, o5, o6, o7⟩ := hok
      have hPost : ∀ W, Below w.heap.size w W → w.heap.size < W.heap.size → W.cell? ⟨w.heap.size, 1, none⟩ = some (.slice Al d.lengths.length cl) →
          Calls Try.prog 39 #[.pointer (some ⟨w.heap.size, 0, none⟩), I k] W fun e w' => e = .returned (.agg #[.pointer (some ⟨w.heap.size, 0, none⟩), I (leftOf d.lengths k), I (rightOf d.lengths k)]) ∧ Below W.heap.size W w' :=
        fun W hB hz hc => postOf_any w.heap.size 0 Al cl d.lengths k W hz hc ((hl.below hB).more hB.size) (by omega) (by omega)
      have hLoad : ∀ W, w.heap.size < W.heap.size → W.cell? ⟨w.heap.size, 2, none⟩ = some (I d.own) → W.cell? ⟨w.heap.size, 3, none⟩ = some (I d.weight) → W.cell? ⟨w.heap.size, 4, none⟩ = some (I d.apart) → W.cell? ⟨w.heap.size, 5, none⟩ = some (I d.persons) →
          Calls Try.prog 40 #[.agg #[.pointer (some ⟨w.heap.size, 0, none⟩), I (leftOf d.lengths k), I (rightOf d.lengths k)]] W fun e w' => e = .returned (Rat2 (pres d k).1 (pres d k).2) ∧ Below W.heap.size W w' :=
        fun W hz h2 h3 h4 h5 => load_any w.heap.size 0 _ _ _ _ _ _ W hz hbe.1 hbe.2 o4 o5 o6 o7 (by simpa using h2) (by simpa using h3) (by simpa using h4) (by simpa using h5)
      generalize leftOf d.lengths k = l at *
      generalize rightOf d.lengths k = r at *
      generalize pres d k = pr at *
      obtain ⟨p1, p2⟩ := pr
      obtain ⟨ps, ls, own, wt, ap, pe⟩ := d
      simp only [Deck.val] at *
      clear hp hl
      go_enter Try.func14, Try.ntmps14
      go_wp2_with (first
        | (go_at_call 37; refine (hD _ (by (repeat' (first | assumption | exact Below.refl _ _ | refine Below.drew ?_ | refine below_drewN ?_ _ | refine Below.setCell ?_ (by first | omega | (simp; done) | (simp; omega)) _ | refine Below.alloc ?_ (by first | omega | (simp; done) | (simp; omega)) _ | refine Below.trans ?_ (Below.mono (by assumption) (by first | omega | (simp; done) | (simp; omega))))))).mono ?_; rintro e w1 ⟨b, rfl, hbe', hB⟩; obtain rfl : b = true := hbe'.2 hok'.out; clear hbe'; have hB1 := below_call (w := w) (by (repeat' (first | assumption | exact Below.refl _ _ | refine Below.drew ?_ | refine below_drewN ?_ _ | refine Below.setCell ?_ (by first | omega | (simp; done) | (simp; omega)) _ | refine Below.alloc ?_ (by first | omega | (simp; done) | (simp; omega)) _ | refine Below.trans ?_ (Below.mono (by assumption) (by first | omega | (simp; done) | (simp; omega)))))) hB; obtain ⟨hcc, hff⟩ := bcell hB; have hz1 : w.heap.size + 1 < w1.heap.size := (by have := hB.size; simp at this; omega); have hz0 : w.heap.size < w1.heap.size := (by omega))
        | (go_at_call 38; go_in)
        | (go_at_call 39; refine (hPost _ (by (repeat' (first | assumption | exact Below.refl _ _ | refine Below.drew ?_ | refine below_drewN ?_ _ | refine Below.setCell ?_ (by first | omega | (simp; done) | (simp; omega)) _ | refine Below.alloc ?_ (by first | omega | (simp; done) | (simp; omega)) _ | refine Below.trans ?_ (Below.mono (by assumption) (by first | omega | (simp; done) | (simp; omega)))))) hz0 (by simp [hcc, go_sem])).mono ?_; rintro e w2 ⟨rfl, hBB⟩; have hB2 := below_call (w := w) (by (repeat' (first | assumption | exact Below.refl _ _ | refine Below.drew ?_ | refine below_drewN ?_ _ | refine Below.setCell ?_ (by first | omega | (simp; done) | (simp; omega)) _ | refine Below.alloc ?_ (by first | omega | (simp; done) | (simp; omega)) _ | refine Below.trans ?_ (Below.mono (by assumption) (by first | omega | (simp; done) | (simp; omega)))))) hBB; obtain ⟨hcc2, hff2⟩ := bcell hBB; have hzz := hBB.size; have hzz1 : w.heap.size + 1 < w2.heap.size := (by omega); have hzz0 : w.heap.size < w2.heap.size := (by omega))
        | (go_at_call 40; refine (hLoad _ hzz0 (by simp [hcc2, hcc, hz0, go_sem]) (by simp [hcc2, hcc, hz0, go_sem]) (by simp [hcc2, hcc, hz0, go_sem]) (by simp [hcc2, hcc, hz0, go_sem])).mono ?_; rintro e w3 ⟨rfl, hBC⟩; have hB3 := below_call (w := w) (by (repeat' (first | assumption | exact Below.refl _ _ | refine Below.drew ?_ | refine below_drewN ?_ _ | refine Below.setCell ?_ (by first | omega | (simp; done) | (simp; omega)) _ | refine Below.alloc ?_ (by first | omega | (simp; done) | (simp; omega)) _ | refine Below.trans ?_ (Below.mono (by assumption) (by first | omega | (simp; done) | (simp; omega)))))) hBC; obtain ⟨hcc3, hff3⟩ := bcell hBC; have hz3 := hBC.size; have hz31 : w.heap.size + 1 < w3.heap.size := (by omega); have hz30 : w.heap.size < w3.heap.size := (by omega)))
      have k1 : w3.cell? ⟨w.heap.size + 1, 0, none⟩ = some (I 0) := by simp [hcc3, hcc2, hcc, hzz1, hz1, go_sem]
      have k2 : w3.cell? ⟨w.heap.size + 1, 1, none⟩ = some (I 0) := by simp [hcc3, hcc2, hcc, hzz1, hz1, go_sem]
      refine bodyPost_ret (v := prV ((p1, p2), 0)) (by simp [results, Try.results14, go_sem, prV, hz31, k1, k2]) rfl ⟨rfl, by (repeat' (first | assumption | exact Below.refl _ _ | refine Below.drew ?_ | refine below_drewN ?_ _ | refine Below.setCell ?_ (by first | omega | (simp; done) | (simp; omega)) _ | refine Below.alloc ?_ (by first | omega | (simp; done) | (simp; omega)) _ | refine Below.trans ?_ (Below.mono (by assumption) (by first | omega | (simp; done) | (simp; omega)))))⟩
    · have hres : loadRes d i = ((0, 0), 2) := by unfold loadRes; rw [if_pos hok, if_neg hi]
      rw [hres]
      clear hres
      have hok' := Lib.hid hok
      obtain ⟨o1, o2, o3, _⟩ := hok
      obtain ⟨ps, ls, own, wt, ap, pe⟩ := d
      simp only [Deck.val] at *
      clear hp hl
      rcases (show i < 0 ∨ (ps.length : Int) - 1 < i by omega) with hn | hn
      all_goals
        clear hi
        go_enter Try.func14, Try.ntmps14
        go_wp2_with (first
          | (go_at_call 37; refine (hD _ (by (repeat' (first | assumption | exact Below.refl _ _ | refine Below.drew ?_ | refine below_drewN ?_ _ | refine Below.setCell ?_ (by first | omega | (simp; done) | (simp; omega)) _ | refine Below.alloc ?_ (by first | omega | (simp; done) | (simp; omega)) _ | refine Below.trans ?_ (Below.mono (by assumption) (by first | omega | (simp; done) | (simp; omega))))))).mono ?_; rintro e w1 ⟨b, rfl, hbe', hB⟩; obtain rfl : b = true := hbe'.2 hok'.out; clear hbe'; have hB1 := below_call (w := w) (by (repeat' (first | assumption | exact Below.refl _ _ | refine Below.drew ?_ | refine below_drewN ?_ _ | refine Below.setCell ?_ (by first | omega | (simp; done) | (simp; omega)) _ | refine Below.alloc ?_ (by first | omega | (simp; done) | (simp; omega)) _ | refine Below.trans ?_ (Below.mono (by assumption) (by first | omega | (simp; done) | (simp; omega)))))) hB; obtain ⟨hcc, hff⟩ := bcell hB; have hz1 : w.heap.size + 1 < w1.heap.size := (by have := hB.size; simp at this; omega); have hz0 : w.heap.size < w1.heap.size := (by omega))
          | (go_at_call 38; go_in))
      all_goals
        have k1 : w1.cell? ⟨w.heap.size + 1, 0, none⟩ = some (I 0) := by simp [hcc, hz1, go_sem]
        have k2 : w1.cell? ⟨w.heap.size + 1, 1, none⟩ = some (I 0) := by simp [hcc, hz1, go_sem]
        first
        | (exfalso; have h2 : i ≤ (ps.length : Int) - 1 := (by simpa using (by assumption : (!decide (i ≤ (ps.length : Int) - 1)) = false)); omega)
        | refine bodyPost_ret (v := prV ((0, 0), 2)) (by simp [results, Try.results14, go_sem, prV, hz1, k1, k2]) rfl ⟨rfl, by (repeat' (first | assumption | exact Below.refl _ _ | refine Below.drew ?_ | refine below_drewN ?_ _ | refine Below.setCell ?_ (by first | omega | (simp; done) | (simp; omega)) _ | refine Below.alloc ?_ (by first | omega | (simp; done) | (simp; omega)) _ | refine Below.trans ?_ (Below.mono (by assumption) (by first | omega | (simp; done) | (simp; omega)))))⟩
  · have hres : loadRes d i = ((0, 0), 1) := by unfold loadRes; rw [if_neg hok]
    rw [hres]
    clear hres
    have hok' := Lib.hid hok
    clear hok
    obtain ⟨ps, ls, own, wt, ap, pe⟩ := d
    simp only [Deck.val] at *
    clear hp hl
    go_enter Try.func14, Try.ntmps14
    go_wp2_with (first
      | (go_at_call 37; refine (hD _ (by (repeat' (first | assumption | exact Below.refl _ _ | refine Below.drew ?_ | refine below_drewN ?_ _ | refine Below.setCell ?_ (by first | omega | (simp; done) | (simp; omega)) _ | refine Below.alloc ?_ (by first | omega | (simp; done) | (simp; omega)) _ | refine Below.trans ?_ (Below.mono (by assumption) (by first | omega | (simp; done) | (simp; omega))))))).mono ?_; rintro e w1 ⟨b, rfl, hbe', hB⟩; obtain rfl : b = false := (by cases b <;> first | rfl | exact absurd (hbe'.1 rfl) hok'.out); clear hbe'; have hB1 := below_call (w := w) (by (repeat' (first | assumption | exact Below.refl _ _ | refine Below.drew ?_ | refine below_drewN ?_ _ | refine Below.setCell ?_ (by first | omega | (simp; done) | (simp; omega)) _ | refine Below.alloc ?_ (by first | omega | (simp; done) | (simp; omega)) _ | refine Below.trans ?_ (Below.mono (by assumption) (by first | omega | (simp; done) | (simp; omega)))))) hB; obtain ⟨hcc, hff⟩ := bcell hB; have hz1 : w.heap.size + 1 < w1.heap.size := (by have := hB.size; simp at this; omega); have hz0 : w.heap.size < w1.heap.size := (by omega))
      | (go_at_call 38; go_in))
    all_goals
      have k1 : w1.cell? ⟨w.heap.size + 1, 0, none⟩ = some (I 0) := by simp [hcc, hz1, go_sem]
      have k2 : w1.cell? ⟨w.heap.size + 1, 1, none⟩ = some (I 0) := by simp [hcc, hz1, go_sem]
      refine bodyPost_ret (v := prV ((0, 0), 1)) (by simp [results, Try.results14, go_sem, prV, hz1, k1, k2]) rfl ⟨rfl, by (repeat' (first | assumption | exact Below.refl _ _ | refine Below.drew ?_ | refine below_drewN ?_ _ | refine Below.setCell ?_ (by first | omega | (simp; done) | (simp; omega)) _ | refine Below.alloc ?_ (by first | omega | (simp; done) | (simp; omega)) _ | refine Below.trans ?_ (Below.mono (by assumption) (by first | omega | (simp; done) | (simp; omega)))))⟩
end Go.Proofs.Ytilmlgngnbokfaa
