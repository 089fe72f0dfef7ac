/- GroundLess: what Most and Apart answer where the deck breaks. -/
import Derived.Test.YtilmlgngnbokfaaLc
namespace Go.Proofs.Ytilmlgngnbokfaa
set_option linter.unusedVariables false
set_option linter.unusedSimpArgs false
open Go Go.RowKit
section
variable {g : Grd} {l : List (Int × Int × Int)} {d : Deck} {e : Ending}
theorem most_no2 (h : MostPost g l d e) (ha : AllOk g l d) (hw : wrongI g.radar l < 0) (hb : bearsB d (crustL g.radar l) g.firm = false) : ∃ n f : Int, e = .returned (.tuple #[I n, I f]) ∧ ((f = 0 ∧ n < d.persons ∧ MoF g l d n) ∨ (n = 0 ∧ f = 4)) := by
  rcases most_no h ha hw hb with ⟨n, h1, h2, h3⟩ | h1
  · exact ⟨n, 0, h1, .inl ⟨rfl, h2, h3⟩⟩
  · exact ⟨0, 4, h1, .inr ⟨rfl, rfl⟩⟩
theorem apart_no2 (h : ApartPost g l d e) (ha : AllOk g l d) (hw : wrongI g.radar l < 0) : ∃ n f : Int, e = .returned (.tuple #[I n, I f]) ∧ ((f = 0 ∧ ApF g l d n) ∨ (n = 0 ∧ f = 4)) := by
  rcases apart_no h ha hw with ⟨n, h1, h2⟩ | h1
  · exact ⟨n, 0, h1, .inl ⟨rfl, h2⟩⟩
  · exact ⟨0, 4, h1, .inr ⟨rfl, rfl⟩⟩
end
end Go.Proofs.Ytilmlgngnbokfaa
