/- The document's Load. -/
import Derived.Test.YtilmlgngnbokfaaX5
namespace Go.Proofs.Ytilmlgngnbokfaa
set_option linter.unusedVariables false
set_option linter.unusedSimpArgs false
open Go.RowKit

set_option maxRecDepth 100000 in
set_option maxHeartbeats 1000000 in
theorem refLoad_any (Ap Al : Option Addr) (cp cl : Nat) (d : Deck) (i : Int) (w : World)
   (hp : Ints w w.heap.size Ap d.posts) (hl : Ints w w.heap.size Al d.lengths) (hpl : d.posts.length ≤ 9223372036854775807) (hll : d.lengths.length ≤ 9223372036854775807) :
    Calls Try.prog 23 #[d.val Ap Al cp cl, I i] w fun e w' => e = .returned (prV (loadRes d i)) ∧ Below w.heap.size w w' := by
  have hD : ∀ W, Below w.heap.size w W → Calls Try.prog 12 #[d.val Ap Al cp cl, I 400] W (RetB (d.ok 400) W) := fun W hB =>
    refDeck_any Ap Al cp cl d 400 W ((hp.below hB).more hB.size) ((hl.below hB).more hB.size) hpl hll (by omega)
  by_cases hok : d.ok 400
  · by_cases hi : 0 ≤ i ∧ i ≤ (d.posts.length : Int) - 1
    · obtain ⟨k, rfl⟩ := Int.eq_ofNat_of_zero_le hi.1
      have hres : loadRes d k = (pres d k, 0) := by unfold loadRes; rw [if_pos hok, if_pos hi]; simp
      rw [hres]
      clear hres
      have hk1 : (k : Int) ≤ (d.posts.length : Int) - 1 := hi.2
      have hbe := beam_bd hok k
      have hok' := Lib.hid hok
      obtain ⟨o1, o2, o3, _, _, o4, o5, o6, o7⟩ := hok
      have hLoad : ∀ W, Below w.heap.size w W → Calls Try.prog 47 #[d.val Ap Al cp cl, I k] W fun e w' => e = .returned (Rat2 (pres d k).1 (pres d k).2) ∧ Below W.heap.size W w' :=
        fun W hB => refload_any Ap Al cp cl d k W ⟨(hp.below hB).more hB.size, (hl.below hB).more hB.size⟩ (Deck.ok_more hok'.out (by omega)) (by omega)
      generalize leftOf d.lengths k = l at *
      generalize rightOf d.lengths k = r at *
      generalize pres d k = pr at *
      obtain ⟨p1, p2⟩ := pr
      obtain ⟨ps, ls, own, wt, ap, pe⟩ := d
      simp only [Deck.val] at *
      clear hp hl
      go_enter Try.func23, Try.ntmps23
      go_wp2_with (first
        | (go_at_call 12; refine (hD _ (by (repeat' (first | assumption | exact Below.refl _ _ | refine Below.drew ?_ | refine below_drewN ?_ _ | refine Below.setCell ?_ (by first | omega | (simp; done) | (simp; omega)) _ | refine Below.alloc ?_ (by first | omega | (simp; done) | (simp; omega)) _ | refine Below.trans ?_ (Below.mono (by assumption) (by first | omega | (simp; done) | (simp; omega))))))).mono ?_; rintro e w1 ⟨b, rfl, hbe', hB⟩; obtain rfl : b = true := hbe'.2 hok'.out; clear hbe'; have hB1 := below_call (w := w) (by (repeat' (first | assumption | exact Below.refl _ _ | refine Below.drew ?_ | refine below_drewN ?_ _ | refine Below.setCell ?_ (by first | omega | (simp; done) | (simp; omega)) _ | refine Below.alloc ?_ (by first | omega | (simp; done) | (simp; omega)) _ | refine Below.trans ?_ (Below.mono (by assumption) (by first | omega | (simp; done) | (simp; omega)))))) hB; obtain ⟨hcc, hff⟩ := bcell hB; have hz1 : w.heap.size + 1 < w1.heap.size := (by have := hB.size; simp at this; omega); have hz0 : w.heap.size < w1.heap.size := (by omega))
        | (go_at_call 36; go_in)
        | (go_at_call 47; refine (hLoad _ (by (repeat' (first | assumption | exact Below.refl _ _ | refine Below.drew ?_ | refine below_drewN ?_ _ | refine Below.setCell ?_ (by first | omega | (simp; done) | (simp; omega)) _ | refine Below.alloc ?_ (by first | omega | (simp; done) | (simp; omega)) _ | refine Below.trans ?_ (Below.mono (by assumption) (by first | omega | (simp; done) | (simp; omega))))))).mono ?_; rintro e w3 ⟨rfl, hBC⟩; have hB3 := below_call (w := w) (by (repeat' (first | assumption | exact Below.refl _ _ | refine Below.drew ?_ | refine below_drewN ?_ _ | refine Below.setCell ?_ (by first | omega | (simp; done) | (simp; omega)) _ | refine Below.alloc ?_ (by first | omega | (simp; done) | (simp; omega)) _ | refine Below.trans ?_ (Below.mono (by assumption) (by first | omega | (simp; done) | (simp; omega)))))) hBC; obtain ⟨hcc3, hff3⟩ := bcell hBC; have hz3 := hBC.size; have hz31 : w.heap.size + 1 < w3.heap.size := (by omega); have hz30 : w.heap.size < w3.heap.size := (by omega)))
      have k1 : w3.cell? ⟨w.heap.size + 1, 0, none⟩ = some (I 0) := by simp [hcc3, hcc, hz1, go_sem]
      have k2 : w3.cell? ⟨w.heap.size + 1, 1, none⟩ = some (I 0) := by simp [hcc3, hcc, hz1, go_sem]
      refine bodyPost_ret (v := prV ((p1, p2), 0)) (by simp [results, Try.results23, go_sem, prV, hz31, k1, k2]) rfl ⟨rfl, by (repeat' (first | assumption | exact Below.refl _ _ | refine Below.drew ?_ | refine below_drewN ?_ _ | refine Below.setCell ?_ (by first | omega | (simp; done) | (simp; omega)) _ | refine Below.alloc ?_ (by first | omega | (simp; done) | (simp; omega)) _ | refine Below.trans ?_ (Below.mono (by assumption) (by first | omega | (simp; done) | (simp; omega)))))⟩
    · have hres : loadRes d i = ((0, 0), 2) := by unfold loadRes; rw [if_pos hok, if_neg hi]
      rw [hres]
      clear hres
      have hok' := Lib.hid hok
      obtain ⟨o1, o2, o3, _⟩ := hok
      obtain ⟨ps, ls, own, wt, ap, pe⟩ := d
      simp only [Deck.val] at *
      clear hp hl
      rcases (show i < 0 ∨ (ps.length : Int) - 1 < i by omega) with hn | hn
      all_goals
        clear hi
        go_enter Try.func23, Try.ntmps23
        go_wp2_with (first
          | (go_at_call 12; refine (hD _ (by (repeat' (first | assumption | exact Below.refl _ _ | refine Below.drew ?_ | refine below_drewN ?_ _ | refine Below.setCell ?_ (by first | omega | (simp; done) | (simp; omega)) _ | refine Below.alloc ?_ (by first | omega | (simp; done) | (simp; omega)) _ | refine Below.trans ?_ (Below.mono (by assumption) (by first | omega | (simp; done) | (simp; omega))))))).mono ?_; rintro e w1 ⟨b, rfl, hbe', hB⟩; obtain rfl : b = true := hbe'.2 hok'.out; clear hbe'; have hB1 := below_call (w := w) (by (repeat' (first | assumption | exact Below.refl _ _ | refine Below.drew ?_ | refine below_drewN ?_ _ | refine Below.setCell ?_ (by first | omega | (simp; done) | (simp; omega)) _ | refine Below.alloc ?_ (by first | omega | (simp; done) | (simp; omega)) _ | refine Below.trans ?_ (Below.mono (by assumption) (by first | omega | (simp; done) | (simp; omega)))))) hB; obtain ⟨hcc, hff⟩ := bcell hB; have hz1 : w.heap.size + 1 < w1.heap.size := (by have := hB.size; simp at this; omega); have hz0 : w.heap.size < w1.heap.size := (by omega))
          | (go_at_call 36; go_in))
      all_goals
        have k1 : w1.cell? ⟨w.heap.size + 1, 0, none⟩ = some (I 0) := by simp [hcc, hz1, go_sem]
        have k2 : w1.cell? ⟨w.heap.size + 1, 1, none⟩ = some (I 0) := by simp [hcc, hz1, go_sem]
        first
        | (exfalso; have h2 : i ≤ (ps.length : Int) - 1 := (by simpa using (by assumption : (!decide (i ≤ (ps.length : Int) - 1)) = false)); omega)
        | refine bodyPost_ret (v := prV ((0, 0), 2)) (by simp [results, Try.results23, go_sem, prV, hz1, k1, k2]) rfl ⟨rfl, by (repeat' (first | assumption | exact Below.refl _ _ | refine Below.drew ?_ | refine below_drewN ?_ _ | refine Below.setCell ?_ (by first | omega | (simp; done) | (simp; omega)) _ | refine Below.alloc ?_ (by first | omega | (simp; done) | (simp; omega)) _ | refine Below.trans ?_ (Below.mono (by assumption) (by first | omega | (simp; done) | (simp; omega)))))⟩
  · have hres : loadRes d i = ((0, 0), 1) := by unfold loadRes; rw [if_neg hok]
    rw [hres]
    clear hres
    have hok' := Lib.hid hok
    clear hok
    obtain ⟨ps, ls, own, wt, ap, pe⟩ := d
    simp only [Deck.val] at *
    clear hp hl
    go_enter Try.func23, Try.ntmps23
    go_wp2_with (first
      | (go_at_call 12; refine (hD _ (by (repeat' (first | assumption | exact Below.refl _ _ | refine Below.drew ?_ | refine below_drewN ?_ _ | refine Below.setCell ?_ (by first | omega | (simp; done) | (simp; omega)) _ | refine Below.alloc ?_ (by first | omega | (simp; done) | (simp; omega)) _ | refine Below.trans ?_ (Below.mono (by assumption) (by first | omega | (simp; done) | (simp; omega))))))).mono ?_; rintro e w1 ⟨b, rfl, hbe', hB⟩; obtain rfl : b = false := (by cases b <;> first | rfl | exact absurd (hbe'.1 rfl) hok'.out); clear hbe'; have hB1 := below_call (w := w) (by (repeat' (first | assumption | exact Below.refl _ _ | refine Below.drew ?_ | refine below_drewN ?_ _ | refine Below.setCell ?_ (by first | omega | (simp; done) | (simp; omega)) _ | refine Below.alloc ?_ (by first | omega | (simp; done) | (simp; omega)) _ | refine Below.trans ?_ (Below.mono (by assumption) (by first | omega | (simp; done) | (simp; omega)))))) hB; obtain ⟨hcc, hff⟩ := bcell hB; have hz1 : w.heap.size + 1 < w1.heap.size := (by have := hB.size; simp at this; omega); have hz0 : w.heap.size < w1.heap.size := (by omega))
      | (go_at_call 36; go_in))
    all_goals
      have k1 : w1.cell? ⟨w.heap.size + 1, 0, none⟩ = some (I 0) := by simp [hcc, hz1, go_sem]
      have k2 : w1.cell? ⟨w.heap.size + 1, 1, none⟩ = some (I 0) := by simp [hcc, hz1, go_sem]
      refine bodyPost_ret (v := prV ((0, 0), 1)) (by simp [results, Try.results23, go_sem, prV, hz1, k1, k2]) rfl ⟨rfl, by (repeat' (first | assumption | exact Below.refl _ _ | refine Below.drew ?_ | refine below_drewN ?_ _ | refine Below.setCell ?_ (by first | omega | (simp; done) | (simp; omega)) _ | refine Below.alloc ?_ (by first | omega | (simp; done) | (simp; omega)) _ | refine Below.trans ?_ (Below.mono (by assumption) (by first | omega | (simp; done) | (simp; omega)))))⟩
end Go.Proofs.Ytilmlgngnbokfaa
