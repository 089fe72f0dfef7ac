/- GroundLess: what Most and Apart answer, where the deck bears and where it does not. -/
import Derived.Test.YtilmlgngnbokfaaIs
import Derived.Test.YtilmlgngnbokfaaBx
namespace Go.Proofs.Ytilmlgngnbokfaa
set_option linter.unusedVariables false
set_option linter.unusedSimpArgs false
open Go Go.RowKit

section
variable {g : Grd} {l : List (Int × Int × Int)} {d : Deck} {e : Ending}
/-- A number of persons that bears, and one more does not. -/
def MoF (g : Grd) (l : List (Int × Int × Int)) (d : Deck) (n : Int) : Prop := 0 ≤ n ∧ n ≤ 100 ∧ bearsB (d.pe n) (crustL g.radar l) g.firm = true ∧ (n < 100 → bearsB (d.pe (n + 1)) (crustL g.radar l) g.firm = false)
def ApF (g : Grd) (l : List (Int × Int × Int)) (d : Deck) (n : Int) : Prop := 1 ≤ n ∧ n ≤ 400 ∧ bearsB (d.ap n) (crustL g.radar l) g.firm = true ∧ (1 < n → bearsB (d.ap (n - 1)) (crustL g.radar l) g.firm = false)

theorem most_f (h : MostPost g l d e) (ha : AllOk g l d) (hw : wrongI g.radar l < 0) : (∃ n : Int, e = .returned (.tuple #[I n, I 0]) ∧ MoF g l d n) ∨ (e = .returned (.tuple #[I 0, I 4]) ∧ bearsB (d.pe 0) (crustL g.radar l) g.firm = false) := by
  rcases h with ⟨h, _⟩ | ⟨_, h, _⟩ | ⟨_, _, r, hr, h1, h2, ⟨h3, h4⟩ | ⟨h3, h4⟩⟩
  · exact absurd ha h
  · omega
  · subst h3
    exact .inr ⟨h4, by simpa using h2 (by omega)⟩
  · refine .inl ⟨_, h4, by omega, by omega, ?_, fun h => ?_⟩
    · have := h1 h3
      rwa [show ((r - 1 : Nat) : Int) = (r : Int) - 1 by omega] at this
    · have := h2 (by omega)
      rwa [show (r : Int) - 1 + 1 = r by omega]
theorem apart_f (h : ApartPost g l d e) (ha : AllOk g l d) (hw : wrongI g.radar l < 0) : (∃ n : Int, e = .returned (.tuple #[I n, I 0]) ∧ ApF g l d n) ∨ (e = .returned (.tuple #[I 0, I 4]) ∧ bearsB (d.ap 400) (crustL g.radar l) g.firm = false) := by
  rcases h with ⟨h, _⟩ | ⟨_, h, _⟩ | ⟨_, _, r, hr, h1, h2, ⟨h3, h4⟩ | ⟨h3, h4⟩⟩
  · exact absurd ha h
  · omega
  · subst h3
    exact .inr ⟨h4, by simpa using h1 (by omega)⟩
  · refine .inl ⟨_, h4, by omega, by omega, h2 h3, fun h => ?_⟩
    have := h1 (by omega)
    rwa [show ((r - 1 : Nat) : Int) + 1 = (r : Int) + 1 - 1 by omega] at this

theorem most_yes (h : MostPost g l d e) (ha : AllOk g l d) (hw : wrongI g.radar l < 0) (hb : bearsB d (crustL g.radar l) g.firm = true) : ∃ n : Int, e = .returned (.tuple #[I n, I 0]) ∧ d.persons ≤ n ∧ MoF g l d n := by
  have hpe := ha.2.2.2.2.2.2.2.2.2
  rcases most_f h ha hw with ⟨n, h1, h2⟩ | ⟨_, h2⟩
  · refine ⟨n, h1, ?_, h2⟩
    by_cases hlt : n < d.persons
    · exfalso
      have h3 := h2.2.2.2 (by omega)
      have h4 := bears_pe (n := n + 1) (m := d.persons) ha.2 (by omega) hb
      rw [h3] at h4
      cases h4
    · omega
  · exfalso
    have h4 := bears_pe (n := 0) (m := d.persons) ha.2 (by omega) hb
    rw [h2] at h4
    cases h4
theorem most_no (h : MostPost g l d e) (ha : AllOk g l d) (hw : wrongI g.radar l < 0) (hb : bearsB d (crustL g.radar l) g.firm = false) : (∃ n : Int, e = .returned (.tuple #[I n, I 0]) ∧ n < d.persons ∧ MoF g l d n) ∨ e = .returned (.tuple #[I 0, I 4]) := by
  rcases most_f h ha hw with ⟨n, h1, h2⟩ | ⟨h1, _⟩
  · refine .inl ⟨n, h1, ?_, h2⟩
    by_cases hlt : n < d.persons
    · exact hlt
    · exfalso
      have h4 := bears_pe (n := d.persons) (m := n) ha.2 (by omega) h2.2.2.1
      rw [show d.pe d.persons = d from rfl, hb] at h4
      cases h4
  · exact .inr h1
theorem apart_yes (h : ApartPost g l d e) (ha : AllOk g l d) (hw : wrongI g.radar l < 0) (hb : bearsB d (crustL g.radar l) g.firm = true) : ∃ n : Int, e = .returned (.tuple #[I n, I 0]) ∧ n ≤ d.apart ∧ ApF g l d n := by
  have hap := ha.2.2.2.2.2.2.2.2.1
  rcases apart_f h ha hw with ⟨n, h1, h2⟩ | ⟨_, h2⟩
  · refine ⟨n, h1, ?_, h2⟩
    by_cases hlt : n ≤ d.apart
    · exact hlt
    · exfalso
      have h3 := h2.2.2.2 (by omega)
      have h4 := bears_ap (n := d.apart) (m := n - 1) ha.2 (by omega) (by omega) (by have := h2.2.1; omega) hb
      rw [h3] at h4
      cases h4
  · exfalso
    have h4 := bears_ap (n := d.apart) (m := 400) ha.2 (by omega) (by omega) (by omega) hb
    rw [h2] at h4
    cases h4
theorem apart_no (h : ApartPost g l d e) (ha : AllOk g l d) (hw : wrongI g.radar l < 0) : (∃ n : Int, e = .returned (.tuple #[I n, I 0]) ∧ ApF g l d n) ∨ e = .returned (.tuple #[I 0, I 4]) := by
  rcases apart_f h ha hw with ⟨n, h1, h2⟩ | ⟨h1, _⟩
  · exact .inl ⟨n, h1, h2⟩
  · exact .inr h1
theorem brk_bd {g : Grd} {l : List (Int × Int × Int)} {d : Deck} (hb : bearsB d (crustL g.radar l) g.firm = false) : 0 ≤ brkI d (crustL g.radar l) g.firm ∧ brkI d (crustL g.radar l) g.firm < d.posts.length := by
  have hb' : ¬ brkI d (crustL g.radar l) g.firm < 0 := by simpa [bearsB] using hb
  refine ⟨by omega, ?_⟩
  unfold brkI idxI at *
  cases h : (List.range d.posts.length).findIdx? (brk d (crustL g.radar l) g.firm) with
  | none => rw [h] at hb'; simp at hb'
  | some i =>
    obtain ⟨hi, _⟩ := List.findIdx?_eq_some_iff_getElem.1 h
    simp at hi ⊢
    omega

/-- The four other decks. -/
def dk (d : Deck) (y : Int) : Nat → Deck
  | 0 => d.pe (max 0 (d.persons - y))
  | 1 => d.wt (max 0 (d.weight - y))
  | 2 => d.ow (max 0 (d.own - y))
  | _ => d.ap (min 400 (d.apart + y))
theorem dk_ok {c : Int} (h : d.ok c) {y : Int} (hy : 0 ≤ y ∧ y ≤ 4) (k : Nat) : (dk d y k).ok c := by
  have h' := h
  obtain ⟨o1, o2, o3, o4, o5, o6, o7, o8, o9⟩ := h'
  match k with
  | 0 => exact Deck.pe_ok h (by omega)
  | 1 => exact Deck.wt_ok h (by omega)
  | 2 => exact Deck.ow_ok h (by omega)
  | k + 3 => exact Deck.ap_ok h (by omega)
theorem dk_le {c : Int} (h : d.ok c) {y : Int} (hy : 0 ≤ y ∧ y ≤ 4) (k i : Nat) : presN (dk d y k) i ≤ presN d i := by
  have h' := h
  obtain ⟨o1, o2, o3, o4, o5, o6, o7, o8, o9⟩ := h'
  match k with
  | 0 => exact presN_pe (m := d.persons) h (by omega) i
  | 1 => exact presN_wt h (by omega) (by omega) i
  | 2 => exact presN_ow h (by omega) i
  | k + 3 => exact presN_ap (n := d.apart) h (by omega) (by omega) (by omega) i
theorem dk_same (d : Deck) (y : Int) (k : Nat) : (dk d y k).posts = d.posts ∧ (dk d y k).lengths = d.lengths := by
  match k with
  | 0 => exact ⟨rfl, rfl⟩
  | 1 => exact ⟨rfl, rfl⟩
  | 2 => exact ⟨rfl, rfl⟩
  | k + 3 => exact ⟨rfl, rfl⟩
theorem dk_c (d : Deck) (y : Int) (k i : Nat) : presC (dk d y k) i = presC d i := by unfold presC; rw [(dk_same d y k).2]

theorem load_ok {d : Deck} {c : Int} (h : d.ok c) (hc : c ≤ 400) (i : Nat) (hi : i < d.posts.length) : loadRes d (i : Nat) = (pres d i, 0) := by
  have h4 : d.ok 400 := by
    obtain ⟨o1, o2, o3, o4, o5⟩ := h
    exact ⟨o1, o2, o3, fun k hk => by have := o4 k hk; omega, o5⟩
  unfold loadRes
  rw [if_pos h4, if_pos ⟨by omega, by omega⟩]; simp
theorem less_ok {c : Int} (h : d.ok c) {y : Int} (hy : 0 ≤ y ∧ y ≤ 4) (k i : Nat) (hi : i < d.posts.length) (w : World) :
    Calls Try.prog 15 #[Rat2 (pres (dk d y k) i).1 (pres (dk d y k) i).2, Rat2 (pres d i).1 (pres d i).2] w fun r w' => r = .returned (.bool true) ∧ Below w.heap.size w w' := by
  have hi' : i < (dk d y k).posts.length := by rw [(dk_same d y k).1]; exact hi
  obtain ⟨a1, a2, a3, a4⟩ := pres_bd h i hi
  obtain ⟨b1, b2, b3, b4⟩ := pres_bd (dk_ok h hy k) i hi'
  have r1 := pres_rep h i hi
  have r2 := pres_rep (dk_ok h hy k) i hi'
  rw [dk_c] at r2 b4 b1 b2
  have l1 : (pres d i).1 ≤ 90000 * (pres d i).2 := rep_le a1 r1 a4
  have l2 : (pres (dk d y k) i).1 ≤ 90000 * (pres (dk d y k) i).2 := rep_le a1 r2 b4
  have m1 : (pres d i).2 ≤ presC d i := rep_den_le a1 r1
  have m2 : (pres (dk d y k) i).2 ≤ presC d i := rep_den_le a1 r2
  have hle : (pres (dk d y k) i).1 * (pres d i).2 ≤ (pres d i).1 * (pres (dk d y k) i).2 := rep_less a1 r2 r1 (dk_le h hy k i)
  obtain ⟨p1, p2, _, _⟩ := r1
  obtain ⟨q1, q2, _, _⟩ := r2
  have B : ∀ n d' m : Int, 0 ≤ n → n ≤ 90000 * d' → 1 ≤ d' → d' ≤ 80000 → 1 ≤ m → m ≤ 80000 → 0 ≤ n * m ∧ n * m ≤ 1000000000000000000 := fun n d' m h1 h2 h3 h4 h5 h6 => by
    refine ⟨Int.mul_nonneg h1 (by omega), ?_⟩
    have : n * m ≤ 7200000000 * 80000 := Int.mul_le_mul (by omega) h6 (by omega) (by omega)
    omega
  refine (less_any _ _ _ _ w (B _ _ _ q1 l2 q2 (by omega) p2 (by omega)) (B _ _ _ p1 l1 p2 (by omega) q2 (by omega))).mono fun r w' ⟨h1, h2⟩ => ⟨by rw [h1, decide_eq_true hle], h2⟩
theorem pres_den {c : Int} (h : d.ok c) (i : Nat) (hi : i < d.posts.length) : 1 ≤ (pres d i).2 := (pres_rep h i hi).2.1
end
/-- The row of the four other decks. -/
theorem row_dk {W : World} {b : Nat} {Ap Al : Option Addr} {cp cl : Nat} {ps ls : List Int} {own wt ap pe kq : Int}
    (h : Box W b [.slice Ap ps.length cp, .slice Al ls.length cl, I own, I wt, I ap, I (max 0 (pe - kq)), .slice Ap ps.length cp, .slice Al ls.length cl, I own, I (max 0 (wt - kq)), I ap, I pe,
      .slice Ap ps.length cp, .slice Al ls.length cl, I (max 0 (own - kq)), I wt, I ap, I pe, .slice Ap ps.length cp, .slice Al ls.length cl, I own, I wt, I (min 400 (ap + kq)), I pe]) (k : Nat) (hk : k < 4) :
    W.cell? ⟨b, k * 6, none⟩ = some (.slice Ap (dk ⟨ps, ls, own, wt, ap, pe⟩ kq k).posts.length cp) ∧ W.cell? ⟨b, k * 6 + 1, none⟩ = some (.slice Al (dk ⟨ps, ls, own, wt, ap, pe⟩ kq k).lengths.length cl) ∧
    W.cell? ⟨b, k * 6 + 2, none⟩ = some (I (dk ⟨ps, ls, own, wt, ap, pe⟩ kq k).own) ∧ W.cell? ⟨b, k * 6 + 3, none⟩ = some (I (dk ⟨ps, ls, own, wt, ap, pe⟩ kq k).weight) ∧
    W.cell? ⟨b, k * 6 + 4, none⟩ = some (I (dk ⟨ps, ls, own, wt, ap, pe⟩ kq k).apart) ∧ W.cell? ⟨b, k * 6 + 5, none⟩ = some (I (dk ⟨ps, ls, own, wt, ap, pe⟩ kq k).persons) := by
  rcases k with _ | _ | _ | _ | k
  · exact ⟨(h.at_ 0 _ rfl).1, (h.at_ 1 _ rfl).1, (h.at_ 2 _ rfl).1, (h.at_ 3 _ rfl).1, (h.at_ 4 _ rfl).1, (h.at_ 5 _ rfl).1⟩
  · exact ⟨(h.at_ 6 _ rfl).1, (h.at_ 7 _ rfl).1, (h.at_ 8 _ rfl).1, (h.at_ 9 _ rfl).1, (h.at_ 10 _ rfl).1, (h.at_ 11 _ rfl).1⟩
  · exact ⟨(h.at_ 12 _ rfl).1, (h.at_ 13 _ rfl).1, (h.at_ 14 _ rfl).1, (h.at_ 15 _ rfl).1, (h.at_ 16 _ rfl).1, (h.at_ 17 _ rfl).1⟩
  · exact ⟨(h.at_ 18 _ rfl).1, (h.at_ 19 _ rfl).1, (h.at_ 20 _ rfl).1, (h.at_ 21 _ rfl).1, (h.at_ 22 _ rfl).1, (h.at_ 23 _ rfl).1⟩
  · omega
end Go.Proofs.Ytilmlgngnbokfaa
