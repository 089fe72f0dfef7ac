/- Rows of pairs. -/
import Derived.Test.YtomfnldlnoiloaaDoorS9
namespace Go.Proofs.YtomfnldlnoiloaaDoor
set_option linter.unusedVariables false
set_option linter.unusedSimpArgs false
open Go Go.RowKit

def Twos (w : World) (B : Nat) (A : Option Addr) (xs : List (Int × Int)) : Prop :=
  0 < xs.length → ∃ b off, A = some ⟨b, off, none⟩ ∧ b < B ∧ ∀ k (h : k < xs.length), w.cell? ⟨b, off + k * 2, none⟩ = some (I xs[k].1) ∧ w.cell? ⟨b, off + k * 2 + 1, none⟩ = some (I xs[k].2)
section
variable {w w' : World} {B B' : Nat} {A : Option Addr} {xs : List (Int × Int)}
theorem Twos.keep (h : Twos w B A xs) (hk : ∀ p : Addr, p.block < B → w'.cell? p = w.cell? p) : Twos w' B A xs := fun h0 => by
  obtain ⟨b, off, hA, hb, hc⟩ := h h0
  exact ⟨b, off, hA, hb, fun k hk' => ⟨(hk _ hb).trans (hc k hk').1, (hk _ hb).trans (hc k hk').2⟩⟩
theorem Twos.more (h : Twos w B A xs) (hB : B ≤ B') : Twos w B' A xs := fun h0 => by
  obtain ⟨b, off, hA, hb, hc⟩ := h h0
  exact ⟨b, off, hA, by omega, hc⟩
theorem Twos.below (h : Twos w B A xs) (hb : Below B w w') : Twos w' B A xs := h.keep fun _ hp => hb.cell hp
end
end Go.Proofs.YtomfnldlnoiloaaDoor
