/- GroundLess: does another deck bear on the ground? -/
import Derived.Test.YtilmlgngnbokfaaLs
namespace Go.Proofs.Ytilmlgngnbokfaa
set_option linter.unusedVariables false
set_option linter.unusedSimpArgs false
open Go Go.RowKit

set_option maxRecDepth 100000 in
set_option maxHeartbeats 1000000 in
theorem is_any (bg bl : Nat) (A : Option Addr) (c : Nat) (g : Grd) (B : Option Addr) (cb : Nat) (l : List (Int × Int × Int)) (Ap Al : Option Addr) (cp cl : Nat) (d : Deck) (w : World) (ha : Args w A g B l Ap Al d)
    (hg0 : w.cell? ⟨bg, 0, none⟩ = some (I g.wide)) (hg1 : w.cell? ⟨bg, 1, none⟩ = some (I g.firm)) (hg2 : w.cell? ⟨bg, 2, none⟩ = some (.slice A g.radar.length c)) (hl0 : w.cell? ⟨bl, 0, none⟩ = some (.slice B l.length cb))
    (hbd : bg < w.heap.size ∧ bl < w.heap.size) (hok : AllOk g l d) (hw : wrongI g.radar l < 0) :
    Calls Try.prog 32 #[d.val Ap Al cp cl, .pointer (some ⟨bg, 0, none⟩), .pointer (some ⟨bl, 0, none⟩)] w fun e w' => e = .returned (.bool (bearsB d (crustL g.radar l) g.firm)) ∧ Below w.heap.size w w' := by
  have hB : ∀ W, Below w.heap.size w W → Calls Try.prog 25 #[g.val A c, .slice B l.length cb, d.val Ap Al cp cl] W fun e w' => (e = .returned (.tuple #[I (if bearsB d (crustL g.radar l) g.firm = true then 0 else brkI d (crustL g.radar l) g.firm), I (if bearsB d (crustL g.radar l) g.firm = true then 4 else 0)])) ∧ Below W.heap.size W w' := fun W hB =>
    (Breaks_any A c g B cb l Ap Al cp cl d W (ha.below hB)).mono fun e w' ⟨h1, h2⟩ => ⟨by
      cases h : bearsB d (crustL g.radar l) g.firm
      · rw [brk_some h1 hok hw h]; rfl
      · rw [brk_none h1 hok hw h]; rfl, h2⟩
  generalize bearsB d (crustL g.radar l) g.firm = bb at *
  generalize brkI d (crustL g.radar l) g.firm = bi at *
  obtain ⟨wd, fm, ra⟩ := g
  obtain ⟨ps, ls, own, wt, ap, pe⟩ := d
  simp only [Grd.val, Deck.val] at *
  have HB := Lib.hid hB
  clear hB hok hw ha
  obtain ⟨h1, h2⟩ := hbd
  cases bb
  all_goals
    simp only [if_true, Bool.false_eq_true, if_false] at HB
    go_enter Try.func32, Try.ntmps32
    go_wp2_with (go_at_call 25; refine (HB.out _ (by (repeat' (first | assumption | exact Below.refl _ _ | refine Below.drew ?_ | refine below_drewN ?_ _ | refine Below.setCell ?_ (by first | omega | (simp; done) | (simp; omega)) _ | refine Below.alloc ?_ (by first | omega | (simp; done) | (simp; omega)) _ | refine Below.trans ?_ (Below.mono (by assumption) (by first | omega | (simp; done) | (simp; omega))))))).mono ?_; rintro e w1 ⟨rfl, hB1⟩)
    go_ret
    exact ⟨rfl, below_call (by (repeat' (first | assumption | exact Below.refl _ _ | refine Below.drew ?_ | refine below_drewN ?_ _ | refine Below.setCell ?_ (by first | omega | (simp; done) | (simp; omega)) _ | refine Below.alloc ?_ (by first | omega | (simp; done) | (simp; omega)) _ | refine Below.trans ?_ (Below.mono (by assumption) (by first | omega | (simp; done) | (simp; omega)))))) hB1⟩
end Go.Proofs.Ytilmlgngnbokfaa
