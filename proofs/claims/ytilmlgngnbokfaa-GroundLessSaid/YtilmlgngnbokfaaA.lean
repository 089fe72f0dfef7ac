import Derived.Test.YtilmlgngnbokfaaB
namespace Go.Proofs.Ytilmlgngnbokfaa
set_option linter.unusedVariables false
set_option linter.unusedSimpArgs false
open Go.RowKit

/-- The call hands back a bool that says whether P, and has let all that was there be. -/
def RetB (P : Prop) (w : World) (e : Ending) (w' : World) : Prop := ∃ b, e = .returned (.bool b) ∧ (b = true ↔ P) ∧ Below w.heap.size w w'

structure Deck where
  posts : List Int
  lengths : List Int
  own : Int
  weight : Int
  apart : Int
  persons : Int

def DeckOk (ps ls : List Int) (own wt ap pe cells : Int) : Prop :=
  2 ≤ ps.length ∧ ps.length ≤ 24 ∧ ls.length + 1 = ps.length ∧ (∀ k (h : k < ps.length), 0 ≤ ps[k] ∧ ps[k] ≤ cells - 1) ∧
  (∀ k (h : k < ls.length), 1 ≤ ls[k] ∧ ls[k] ≤ 200) ∧ (0 ≤ own ∧ own ≤ 100) ∧ (0 ≤ wt ∧ wt ≤ 500) ∧ (1 ≤ ap ∧ ap ≤ 400) ∧ (0 ≤ pe ∧ pe ≤ 100)
def Deck.ok (d : Deck) (cells : Int) : Prop := DeckOk d.posts d.lengths d.own d.weight d.apart d.persons cells

def Deck.val (d : Deck) (Ap Al : Option Addr) (cp cl : Nat) : Value :=
  .agg #[.slice Ap d.posts.length cp, .slice Al d.lengths.length cl, I d.own, I d.weight, I d.apart, I d.persons]

theorem RetB.no {P : Prop} {w w' : World} (h : ¬ P) (hb : Below w.heap.size w w') : RetB P w (.returned (.bool false)) w' := ⟨false, rfl, by simp [h], hb⟩
theorem RetB.yes {P : Prop} {w w' : World} (h : P) (hb : Below w.heap.size w w') : RetB P w (.returned (.bool true)) w' := ⟨true, rfl, by simp [h], hb⟩
theorem RetB.mk {P : Prop} {b : Bool} {w w' : World} (h : b = true ↔ P) (hb : Below w.heap.size w w') : RetB P w (.returned (.bool b)) w' := ⟨b, rfl, h, hb⟩

set_option maxHeartbeats 1000000 in
theorem refDeck_any (Ap Al : Option Addr) (cp cl : Nat) (d : Deck) (cells : Int) (w : World)
   (hp : Ints w w.heap.size Ap d.posts) (hl : Ints w w.heap.size Al d.lengths) (hpl : d.posts.length ≤ 9223372036854775807) (hll : d.lengths.length ≤ 9223372036854775807)  (hc : 0 ≤ cells ∧ cells ≤ 1000000) :
    Calls Try.prog 12 #[d.val Ap Al cp cl, I cells] w (RetB (d.ok cells) w) := by
  obtain ⟨ps, ls, own, wt, ap, pe⟩ := d
  simp only [Deck.val, Deck.ok] at hpl hll hp hl ⊢
  go_enter Try.func12, Try.ntmps12
  go_wp2
  · go_ret
    exact .no (by unfold DeckOk; simp at *; omega) (below1 _ _)
  · go_loop [5] (fun t => ∃ k : Nat, k ≤ ps.length ∧ t = .int .i64 k ∧ ∀ j (h : j < k) (h' : j < ps.length), 0 ≤ ps[j] ∧ ps[j] ≤ cells - 1) (fun t => ps.length - (intOf t).toNat)
    case atStart => exact ⟨0, Nat.zero_le _, rfl, fun j h => by omega⟩
    case round =>
      obtain ⟨k, hk, rfl, hall⟩ := hrel
      by_cases hlt : k < ps.length
      · obtain ⟨b, off, rfl, hb, hcs⟩ := hp (by omega)
        have hcell := hcs k hlt
        clear hcs
        go_wp2
        case roundEnd =>
          go_round
          case rel => exact ⟨k + 1, by omega, by go_num, fun j h h' => by
            rcases Nat.lt_succ_iff_lt_or_eq.1 h with h1 | rfl
            · exact hall j h1 h'
            · simp at *; omega⟩
          case measure => simp [intOf]; omega
        all_goals
          go_ret
          exact .no (fun ⟨_, _, _, hx, _⟩ => by have := hx k hlt; simp at *; omega) (below1 _ _)
      · have hall' : ∀ j (h' : j < ps.length), 0 ≤ ps[j] ∧ ps[j] ≤ cells - 1 := fun j h => hall j (by omega) h
        clear hall
        go_wp2
        go_loop [6] (fun t => ∃ k : Nat, k ≤ ls.length ∧ t = .int .i64 k ∧ ∀ j (h : j < k) (h' : j < ls.length), 1 ≤ ls[j] ∧ ls[j] ≤ 200) (fun t => ls.length - (intOf t).toNat)
        case atStart => exact ⟨0, Nat.zero_le _, rfl, fun j h => by omega⟩
        case round =>
          obtain ⟨k, hk, rfl, hall⟩ := hrel
          by_cases hlt : k < ls.length
          · obtain ⟨b, off, rfl, hb, hcs⟩ := hl (by omega)
            have hcell := hcs k hlt
            clear hcs
            go_wp2
            case roundEnd =>
              go_round
              case rel => exact ⟨k + 1, by omega, by go_num, fun j h h' => by
                rcases Nat.lt_succ_iff_lt_or_eq.1 h with h1 | rfl
                · exact hall j h1 h'
                · simp at *; omega⟩
              case measure => simp [intOf]; omega
            all_goals
              go_ret
              exact .no (fun ⟨_, _, _, _, hx, _⟩ => by have := hx k hlt; simp at *; omega) (below1 _ _)
          · have hall2 : ∀ j (h' : j < ls.length), 1 ≤ ls[j] ∧ ls[j] ≤ 200 := fun j h => hall j (by omega) h
            clear hall
            go_wp2
            all_goals
              go_ret
              first
              | (refine .no ?_ (below1 _ _); rintro ⟨_, _, _, _, _, _, _, _, _⟩; omega)
              | (refine .mk ⟨fun h => ?_, ?_⟩ (below1 _ _)
                 · have : pe ≤ 100 := by simpa using h
                   have : ls.length + 1 = ps.length := by simp at *; omega
                   exact ⟨by omega, by omega, by omega, hall', hall2, by omega, by omega, by omega, by omega⟩
                 · rintro ⟨_, _, _, _, _, _, _, _, _, h⟩; simpa using h)
  all_goals go_ret
  all_goals exact .no (by unfold DeckOk; omega) (below1 _ _)
end Go.Proofs.Ytilmlgngnbokfaa
