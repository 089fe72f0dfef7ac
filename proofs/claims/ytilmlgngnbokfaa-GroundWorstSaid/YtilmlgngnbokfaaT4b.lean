/- GroundWorst: the walk, where nothing is looked at. -/
import Derived.Test.YtilmlgngnbokfaaT4
namespace Go.Proofs.Ytilmlgngnbokfaa
set_option linter.unusedVariables false
set_option linter.unusedSimpArgs false
open Go Go.RowKit

set_option maxRecDepth 100000 in
set_option maxHeartbeats 4000000 in
theorem worst4_any (Ap Al : Option Addr) (cp cl : Nat) (d : Deck) (po : Int) (w : World) (hp : Ints w w.heap.size Ap d.posts) (hl : Ints w w.heap.size Al d.lengths)
    (hpl : d.posts.length ≤ 9223372036854775807) (hbl : d.lengths.length ≤ 9223372036854775807) :
    Calls Try.prog 4 #[d.val Ap Al cp cl, I po] w fun e w' => e = .returned (.bool true) ∧ Below w.heap.size w w' := by
  have hD : ∀ W, Below w.heap.size w W → Calls Try.prog 12 #[d.val Ap Al cp cl, I 400] W (RetB (d.ok 400) W) := fun W hB =>
    refDeck_any _ _ cp cl d 400 W ((hp.below hB).more hB.size) ((hl.below hB).more hB.size) hpl hbl (by omega)
  by_cases hok : d.ok 400
  · have hc : (d.lengths.length ≤ 4 ∧ d.persons ≤ 6 ∧ 0 ≤ po ∧ po < d.posts.length) ∨ 4 < d.lengths.length ∨ (d.lengths.length ≤ 4 ∧ 6 < d.persons) ∨ (d.lengths.length ≤ 4 ∧ d.persons ≤ 6 ∧ po < 0) ∨ (d.lengths.length ≤ 4 ∧ d.persons ≤ 6 ∧ 0 ≤ po ∧ d.posts.length ≤ po) := by omega
    rcases hc with ⟨h1, h2, h3, h4⟩ | hc
    · obtain ⟨i, rfl⟩ := Int.eq_ofNat_of_zero_le h3
      exact worst_main Ap Al cp cl d i w hp hl hok (by omega) h1 h2
    · have HD := Lib.hid fun W hB => (hD W hB).mono (R' := fun e w' => e = .returned (.bool true) ∧ Below W.heap.size W w') fun e w' ⟨b, h1, h2, h3⟩ => ⟨by rw [h1, show b = true from h2.2 hok], h3⟩
      have hpl' : d.posts.length ≤ 24 := hok.2.1
      have hbl' : d.lengths.length ≤ 24 := by have := hok.2.2.1; omega
      clear hD hok hp hl
      obtain ⟨ps, ls, own, wt, ap, pe⟩ := d
      simp only [Deck.val] at *
      have hce : ∀ W, Below (w.heap.size + 1) (w.alloc (.cells #[.slice Ap ps.length cp, .slice Al ls.length cl, I own, I wt, I ap, I pe] 24)) W →
          (W.cell? ⟨w.heap.size, 0, none⟩ = some (.slice Ap ps.length cp) ∧ W.cell? ⟨w.heap.size, 1, none⟩ = some (.slice Al ls.length cl) ∧ W.cell? ⟨w.heap.size, 2, none⟩ = some (I own) ∧ W.cell? ⟨w.heap.size, 3, none⟩ = some (I wt) ∧ W.cell? ⟨w.heap.size, 4, none⟩ = some (I ap) ∧ W.cell? ⟨w.heap.size, 5, none⟩ = some (I pe)) ∧ Below w.heap.size w W ∧ w.heap.size + 1 ≤ W.heap.size := fun W hB => by
        refine ⟨⟨?_, ?_, ?_, ?_, ?_, ?_⟩, ((Below.refl _ w).alloc (Nat.le_refl _) _).trans (hB.mono (by omega)), by have := hB.size; simpa using this⟩
        iterate 6 (rw [hB.cell (p := ⟨w.heap.size, _, none⟩) (by simp)]; simp [go_sem])
      have HCE := Lib.hid hce
      clear hce
      rcases hc with h1 | ⟨h1, h2⟩ | ⟨h1, h2, h3⟩ | ⟨h1, h2, h3, h4⟩
      all_goals
        go_enter Try.func4, Try.ntmps4
        go_wp2_with (first
          | (go_at_call 12; refine (HD.out _ (by (repeat' (first | assumption | exact Below.refl _ _ | refine Below.drew ?_ | refine below_drewN ?_ _ | refine Below.setCell ?_ (by first | omega | (simp; done) | (simp; omega)) _ | refine Below.alloc ?_ (by first | omega | (simp; done) | (simp; omega)) _ | refine Below.trans ?_ (Below.mono (by assumption) (by first | omega | (simp; done) | (simp; omega))))))).mono ?_; rintro e w1 ⟨rfl, hB1⟩; have hw1 : Below (w.heap.size + 1) (w.alloc (.cells #[.slice Ap ps.length cp, .slice Al ls.length cl, I own, I wt, I ap, I pe] 24)) w1 := (by simpa using hB1); obtain ⟨⟨c1, c2, c3, c4, c5, c6⟩, hqw1, hzw1⟩ := HCE.out w1 hw1; clear hB1)
          | (go_at_call 13; refine (alive_any _).mono ?_; rintro e w8 ⟨rfl, hB8⟩))
        go_ret
        exact ⟨rfl, hqw1.trans (hB8.mono hqw1.size)⟩
  · have HD := Lib.hid fun W hB => (hD W hB).mono (R' := fun e w' => e = .returned (.bool false) ∧ Below W.heap.size W w') fun e w' ⟨b, h1, h2, h3⟩ => ⟨by
      have : b = false := by cases b with | false => rfl | true => exact absurd (h2.1 rfl) hok
      rw [h1, this], h3⟩
    clear hD hok hp hl
    obtain ⟨ps, ls, own, wt, ap, pe⟩ := d
    simp only [Deck.val] at *
    have hce : ∀ W, Below (w.heap.size + 1) (w.alloc (.cells #[.slice Ap ps.length cp, .slice Al ls.length cl, I own, I wt, I ap, I pe] 24)) W →
        (W.cell? ⟨w.heap.size, 0, none⟩ = some (.slice Ap ps.length cp) ∧ W.cell? ⟨w.heap.size, 1, none⟩ = some (.slice Al ls.length cl) ∧ W.cell? ⟨w.heap.size, 2, none⟩ = some (I own) ∧ W.cell? ⟨w.heap.size, 3, none⟩ = some (I wt) ∧ W.cell? ⟨w.heap.size, 4, none⟩ = some (I ap) ∧ W.cell? ⟨w.heap.size, 5, none⟩ = some (I pe)) ∧ Below w.heap.size w W ∧ w.heap.size + 1 ≤ W.heap.size := fun W hB => by
      refine ⟨⟨?_, ?_, ?_, ?_, ?_, ?_⟩, ((Below.refl _ w).alloc (Nat.le_refl _) _).trans (hB.mono (by omega)), by have := hB.size; simpa using this⟩
      iterate 6 (rw [hB.cell (p := ⟨w.heap.size, _, none⟩) (by simp)]; simp [go_sem])
    have HCE := Lib.hid hce
    clear hce
    go_enter Try.func4, Try.ntmps4
    go_wp2_with (first
      | (go_at_call 12; refine (HD.out _ (by (repeat' (first | assumption | exact Below.refl _ _ | refine Below.drew ?_ | refine below_drewN ?_ _ | refine Below.setCell ?_ (by first | omega | (simp; done) | (simp; omega)) _ | refine Below.alloc ?_ (by first | omega | (simp; done) | (simp; omega)) _ | refine Below.trans ?_ (Below.mono (by assumption) (by first | omega | (simp; done) | (simp; omega))))))).mono ?_; rintro e w1 ⟨rfl, hB1⟩; have hw1 : Below (w.heap.size + 1) (w.alloc (.cells #[.slice Ap ps.length cp, .slice Al ls.length cl, I own, I wt, I ap, I pe] 24)) w1 := (by simpa using hB1); obtain ⟨⟨c1, c2, c3, c4, c5, c6⟩, hqw1, hzw1⟩ := HCE.out w1 hw1; clear hB1)
      | (go_at_call 13; refine (alive_any _).mono ?_; rintro e w8 ⟨rfl, hB8⟩))
    go_ret
    exact ⟨rfl, hqw1.trans (hB8.mono hqw1.size)⟩
end Go.Proofs.Ytilmlgngnbokfaa
