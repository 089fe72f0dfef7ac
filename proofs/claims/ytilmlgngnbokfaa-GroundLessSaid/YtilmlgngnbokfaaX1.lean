/- The document's Beams, Common, Share, Half. -/
import Derived.Test.YtilmlgngnbokfaaP
namespace Go.Proofs.Ytilmlgngnbokfaa
set_option linter.unusedVariables false
set_option linter.unusedSimpArgs false
open Go.RowKit

set_option maxHeartbeats 400000 in
theorem beams_any (Ap Al : Option Addr) (cp cl : Nat) (d : Deck) (i : Nat) (w : World)
    (hl : Ints w w.heap.size Al d.lengths) (hll : d.lengths.length ≤ 1000) (hi : i ≤ d.lengths.length) :
    Calls Try.prog 41 #[d.val Ap Al cp cl, I i] w fun e w' => e = .returned (.tuple #[I (leftOf d.lengths i), I (rightOf d.lengths i)]) ∧ Below w.heap.size w w' := by
  obtain ⟨ps, ls, own, wt, ap, pe⟩ := d
  simp only [Deck.val] at *
  by_cases h0 : i = 0
  · subst h0
    have hL : leftOf ls 0 = 0 := rfl
    by_cases h1 : 0 < ls.length
    · obtain ⟨b, off, rfl, hb, hcs⟩ := hl h1
      have hb1 : b < w.heap.size + 1 := by omega
      have hc0 := hcs 0 h1
      have hR : rightOf ls 0 = ls[0] := by simp [rightOf, List.getD, h1]
      rw [hL, hR]
      clear hcs hL hR
      simp only [Nat.add_zero] at hc0
      go_enter Try.func41, Try.ntmps41
      go_wp2
      go_ret2
      exact ⟨rfl, by (repeat' (first | assumption | exact Below.refl _ _ | refine Below.drew ?_ | refine below_drewN ?_ _ | refine Below.setCell ?_ (by first | omega | (simp; done) | (simp; omega)) _ | refine Below.alloc ?_ (by first | omega | (simp; done) | (simp; omega)) _ | refine Below.trans ?_ (Below.mono (by assumption) (by first | omega | (simp; done) | (simp; omega)))))⟩
    · have hR : rightOf ls 0 = 0 := by simp [rightOf, List.getD, show ls.length = 0 by omega]
      rw [hL, hR]
      clear hL hR
      go_enter Try.func41, Try.ntmps41
      go_wp2
      go_ret2
      exact ⟨rfl, by (repeat' (first | assumption | exact Below.refl _ _ | refine Below.drew ?_ | refine below_drewN ?_ _ | refine Below.setCell ?_ (by first | omega | (simp; done) | (simp; omega)) _ | refine Below.alloc ?_ (by first | omega | (simp; done) | (simp; omega)) _ | refine Below.trans ?_ (Below.mono (by assumption) (by first | omega | (simp; done) | (simp; omega)))))⟩
  · obtain ⟨j, rfl⟩ : ∃ j, i = j + 1 := ⟨i - 1, by omega⟩
    obtain ⟨b, off, rfl, hb, hcs⟩ := hl (by omega)
    have hb1 : b < w.heap.size + 1 := by omega
    have hcj := hcs j (by omega)
    have hL : leftOf ls (j + 1) = ls[j] := by simp [leftOf, List.getD, show j < ls.length by omega]
    by_cases h1 : j + 1 < ls.length
    · have hc1 := hcs (j + 1) h1
      have hR : rightOf ls (j + 1) = ls[j + 1] := by simp [rightOf, List.getD, h1]
      rw [hL, hR]
      clear hcs hL hR
      go_enter Try.func41, Try.ntmps41
      go_wp2
      go_ret2
      exact ⟨rfl, by (repeat' (first | assumption | exact Below.refl _ _ | refine Below.drew ?_ | refine below_drewN ?_ _ | refine Below.setCell ?_ (by first | omega | (simp; done) | (simp; omega)) _ | refine Below.alloc ?_ (by first | omega | (simp; done) | (simp; omega)) _ | refine Below.trans ?_ (Below.mono (by assumption) (by first | omega | (simp; done) | (simp; omega)))))⟩
    · have hR : rightOf ls (j + 1) = 0 := by simp [rightOf, List.getD, show ls[j + 1]? = none by simp; omega]
      rw [hL, hR]
      clear hcs hL hR
      go_enter Try.func41, Try.ntmps41
      go_wp2
      go_ret2
      exact ⟨rfl, by (repeat' (first | assumption | exact Below.refl _ _ | refine Below.drew ?_ | refine below_drewN ?_ _ | refine Below.setCell ?_ (by first | omega | (simp; done) | (simp; omega)) _ | refine Below.alloc ?_ (by first | omega | (simp; done) | (simp; omega)) _ | refine Below.trans ?_ (Below.mono (by assumption) (by first | omega | (simp; done) | (simp; omega)))))⟩

/-- A deck lies where it should, and is valid. -/
structure DeckAt (w : World) (Ap Al : Option Addr) (d : Deck) : Prop where
  hp : Ints w w.heap.size Ap d.posts
  hl : Ints w w.heap.size Al d.lengths
theorem DeckAt.below {w W : World} {Ap Al : Option Addr} {d : Deck} (h : DeckAt w Ap Al d) (hB : Below w.heap.size w W) : DeckAt W Ap Al d :=
  ⟨(h.hp.below hB).more hB.size, (h.hl.below hB).more hB.size⟩

theorem common_any (Ap Al : Option Addr) (cp cl : Nat) (d : Deck) (i : Nat) (w : World) (ha : DeckAt w Ap Al d) (hd : d.ok 1000000) (hi : i < d.posts.length) :
    Calls Try.prog 17 #[d.val Ap Al cp cl, I i] w fun e w' => e = .returned (I (presC d i)) ∧ Below w.heap.size w w' := by
  have hbm := fun W (hB : Below w.heap.size w W) => beams_any Ap Al cp cl d i W (ha.below hB).hl (by have := hd.2.1; have := hd.2.2.1; omega) (by have := hd.2.2.1; omega)
  have hbe := beam_bd hd i
  have hC : presC d i = 2 * max 1 (leftOf d.lengths i) * max 1 (rightOf d.lengths i) := rfl
  have hCb := comU_bd hbe.1 hbe.2
  rw [show comU (leftOf d.lengths i) (rightOf d.lengths i) = presC d i from rfl, hC] at hCb
  rw [hC]
  clear hC ha hd
  generalize leftOf d.lengths i = l at *
  generalize rightOf d.lengths i = r at *
  obtain ⟨ps, ls, own, wt, ap, pe⟩ := d
  simp only [Deck.val] at *
  go_enter Try.func17, Try.ntmps17
  go_wp2_with (go_at_call 41; refine (hbm _ (by (repeat' (first | assumption | exact Below.refl _ _ | refine Below.drew ?_ | refine below_drewN ?_ _ | refine Below.setCell ?_ (by first | omega | (simp; done) | (simp; omega)) _ | refine Below.alloc ?_ (by first | omega | (simp; done) | (simp; omega)) _ | refine Below.trans ?_ (Below.mono (by assumption) (by first | omega | (simp; done) | (simp; omega))))))).mono ?_; rintro e w1 ⟨rfl, hB⟩; have hB1 := below_call (w := w) (by (repeat' (first | assumption | exact Below.refl _ _ | refine Below.drew ?_ | refine below_drewN ?_ _ | refine Below.setCell ?_ (by first | omega | (simp; done) | (simp; omega)) _ | refine Below.alloc ?_ (by first | omega | (simp; done) | (simp; omega)) _ | refine Below.trans ?_ (Below.mono (by assumption) (by first | omega | (simp; done) | (simp; omega)))))) hB)
  go_ret
  exact ⟨rfl, hB1⟩
end Go.Proofs.Ytilmlgngnbokfaa
