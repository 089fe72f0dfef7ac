/- great: it answers, and lets all that was there be. -/
import Derived.Test.YtilmlgngnbokfaaV3
namespace Go.Proofs.Ytilmlgngnbokfaa
set_option linter.unusedVariables false
set_option linter.unusedSimpArgs false
open Go.RowKit

def RetSome (w : World) (e : Ending) (w' : World) : Prop := ∃ b, e = .returned (.bool b) ∧ Below w.heap.size w w'

set_option maxRecDepth 100000 in
set_option maxHeartbeats 1000000 in
theorem great_any (A : Option Addr) (c : Nat) (g : Grd) (B : Option Addr) (cb ln : Nat) (Ap Al : Option Addr) (cp cl : Nat) (d : Deck) (w : World)
    (hl : Ints w w.heap.size Al d.lengths) (hb : d.lengths.length ≤ 9223372036854775807) :
    Calls Try.prog 11 #[g.val A c, .slice B ln cb, d.val Ap Al cp cl] w (RetSome w) := by
  obtain ⟨wd, fm, ra⟩ := g
  obtain ⟨ps, ls, own, wt, ap, pe⟩ := d
  simp only [Grd.val, Deck.val] at *
  go_enter Try.func11, Try.ntmps11
  go_wp2
  all_goals try (go_ret; exact ⟨_, rfl, by (repeat' (first | assumption | exact Below.refl _ _ | refine Below.drew ?_ | refine below_drewN ?_ _ | refine Below.setCell ?_ (by first | omega | (simp; done) | (simp; omega)) _ | refine Below.alloc ?_ (by first | omega | (simp; done) | (simp; omega)) _ | refine Below.trans ?_ (Below.mono (by assumption) (by first | omega | (simp; done) | (simp; omega)))))⟩)
  all_goals
    go_loop [7] (fun t => ∃ k : Nat, k ≤ ls.length ∧ t = .int .i64 k) (fun t => ls.length - (intOf t).toNat)
    case atStart => exact ⟨0, Nat.zero_le _, rfl⟩
    case round =>
      obtain ⟨k, hk, rfl⟩ := hrel
      by_cases hlt : k < ls.length
      · obtain ⟨b, off, rfl, hb, hcs⟩ := hl (by omega)
        have hcell := hcs k hlt
        have hb1 : b < w.heap.size + 1 := by omega
        have hb2 : b < w.heap.size + 1 + 1 := by omega
        clear hcs
        go_wp2
        all_goals first
          | (go_round
             case rel => exact ⟨k + 1, by omega, by go_num⟩
             case measure => simp [intOf]; omega)
          | (go_ret; exact ⟨_, rfl, by (repeat' (first | assumption | exact Below.refl _ _ | refine Below.drew ?_ | refine below_drewN ?_ _ | refine Below.setCell ?_ (by first | omega | (simp; done) | (simp; omega)) _ | refine Below.alloc ?_ (by first | omega | (simp; done) | (simp; omega)) _ | refine Below.trans ?_ (Below.mono (by assumption) (by first | omega | (simp; done) | (simp; omega)))))⟩)
      · go_wp2
        all_goals (go_ret; exact ⟨_, rfl, by (repeat' (first | assumption | exact Below.refl _ _ | refine Below.drew ?_ | refine below_drewN ?_ _ | refine Below.setCell ?_ (by first | omega | (simp; done) | (simp; omega)) _ | refine Below.alloc ?_ (by first | omega | (simp; done) | (simp; omega)) _ | refine Below.trans ?_ (Below.mono (by assumption) (by first | omega | (simp; done) | (simp; omega)))))⟩)
end Go.Proofs.Ytilmlgngnbokfaa
