/- GroundLess: the walk, where the ground, the soundings or the deck are wrong. -/
import Derived.Test.YtilmlgngnbokfaaLc
import Derived.Test.YtilmlgngnbokfaaEv
import Derived.Test.YtilmlgngnbokfaaG1
namespace Go.Proofs.Ytilmlgngnbokfaa
set_option linter.unusedVariables false
set_option linter.unusedSimpArgs false
open Go Go.RowKit

theorem bad_v {g : Grd} {l : List (Int × Int × Int)} {d : Deck} (h : ¬ (AllOk g l d ∧ wrongI g.radar l < 0)) : ∃ x : Int, (x = 1 ∨ x = 6) ∧
    (∀ e, BrkPost g l d e → e = .returned (.tuple #[I 0, I x])) ∧ (∀ e, MostPost g l d e → e = .returned (.tuple #[I 0, I x])) ∧ (∀ e, ApartPost g l d e → e = .returned (.tuple #[I 0, I x])) := by
  by_cases ha : AllOk g l d
  · have hw : 0 ≤ wrongI g.radar l := by
      by_cases hw : wrongI g.radar l < 0
      · exact absurd ⟨ha, hw⟩ h
      · omega
    refine ⟨6, .inr rfl, fun e he => ?_, fun e he => ?_, fun e he => ?_⟩
    · rcases he with ⟨h1, _⟩ | ⟨_, _, h1⟩ | ⟨_, h1, _⟩ | ⟨_, h1, _⟩
      · exact absurd ha h1
      · exact h1
      · omega
      · omega
    · rcases he with ⟨h1, _⟩ | ⟨_, _, h1⟩ | ⟨_, h1, _⟩
      · exact absurd ha h1
      · exact h1
      · omega
    · rcases he with ⟨h1, _⟩ | ⟨_, _, h1⟩ | ⟨_, h1, _⟩
      · exact absurd ha h1
      · exact h1
      · omega
  · refine ⟨1, .inl rfl, fun e he => ?_, fun e he => ?_, fun e he => ?_⟩
    · rcases he with ⟨_, h1⟩ | ⟨h1, _⟩ | ⟨h1, _⟩ | ⟨h1, _⟩
      · exact h1
      all_goals exact absurd h1 ha
    · rcases he with ⟨_, h1⟩ | ⟨h1, _⟩ | ⟨h1, _⟩
      · exact h1
      all_goals exact absurd h1 ha
    · rcases he with ⟨_, h1⟩ | ⟨h1, _⟩ | ⟨h1, _⟩
      · exact h1
      all_goals exact absurd h1 ha

set_option maxRecDepth 100000 in
set_option maxHeartbeats 8000000 in
theorem less_bad (A : Option Addr) (c : Nat) (g : Grd) (B : Option Addr) (cb : Nat) (l : List (Int × Int × Int)) (Ap Al : Option Addr) (cp cl : Nat) (d : Deck) (y s1 s2 s3 : Int) (w : World) (ha : Args w A g B l Ap Al d)
    (hbad : ¬ (AllOk g l d ∧ wrongI g.radar l < 0)) :
    Calls Try.prog 8 #[g.val A c, .slice B l.length cb, d.val Ap Al cp cl, .int .u8 y, .agg #[I s1, I s2, I s3]] w fun e w' => e = .returned (.bool true) ∧ Below w.heap.size w w' := by
  obtain ⟨x, hx, k1, k2, k3⟩ := bad_v hbad
  have hG : ∀ W, Below w.heap.size w W → Calls Try.prog 11 #[g.val A c, .slice B l.length cb, d.val Ap Al cp cl] W (RetSome W) := fun W hB =>
    great_any A c g B cb l.length Ap Al cp cl d W (ha.below hB).hb ha.hbl
  have hB0 := fun W (hB : Below w.heap.size w W) => (Breaks_any A c g B cb l Ap Al cp cl d W (ha.below hB)).mono (R' := fun e w' => e = .returned (.tuple #[I 0, I x]) ∧ Below W.heap.size W w') fun e w' ⟨h1, h2⟩ => ⟨k1 e h1, h2⟩
  have hMo := fun W (hB : Below w.heap.size w W) => (Most_any A c g B cb l Ap Al cp cl d W (ha.below hB)).mono (R' := fun e w' => e = .returned (.tuple #[I 0, I x]) ∧ Below W.heap.size W w') fun e w' ⟨h1, h2⟩ => ⟨k2 e h1, h2⟩
  have hAp := fun W (hB : Below w.heap.size w W) => (Apart_any A c g B cb l Ap Al cp cl d W (ha.below hB)).mono (R' := fun e w' => e = .returned (.tuple #[I 0, I x]) ∧ Below W.heap.size W w') fun e w' ⟨h1, h2⟩ => ⟨k3 e h1, h2⟩
  clear k1 k2 k3 ha hbad
  obtain ⟨wd, fm, ra⟩ := g
  obtain ⟨ps, ls, own, wt, ap, pe⟩ := d
  simp only [Grd.val, Deck.val] at *
  have HG := Lib.hid hG; have HB0 := Lib.hid hB0; have HMO := Lib.hid hMo; have HAP := Lib.hid hAp
  clear hG hB0 hMo hAp
  have hce : ∀ W, Below (w.heap.size + 4) ((((w.alloc (.cells #[I wd, I fm, .slice A ra.length c] 29)).alloc (.cells #[.slice B l.length cb] 45)).alloc (.cells #[.slice Ap ps.length cp, .slice Al ls.length cl, I own, I wt, I ap, I pe] 24)).alloc (.cells #[I s1, I s2, I s3] 55)) W →
      (W.cell? ⟨w.heap.size, 0, none⟩ = some (I wd) ∧ W.cell? ⟨w.heap.size, 1, none⟩ = some (I fm) ∧ W.cell? ⟨w.heap.size, 2, none⟩ = some (.slice A ra.length c) ∧ W.cell? ⟨w.heap.size + 1, 0, none⟩ = some (.slice B l.length cb) ∧ W.cell? ⟨w.heap.size + 1 + 1, 0, none⟩ = some (.slice Ap ps.length cp) ∧ W.cell? ⟨w.heap.size + 1 + 1, 1, none⟩ = some (.slice Al ls.length cl) ∧ W.cell? ⟨w.heap.size + 1 + 1, 2, none⟩ = some (I own) ∧ W.cell? ⟨w.heap.size + 1 + 1, 3, none⟩ = some (I wt) ∧ W.cell? ⟨w.heap.size + 1 + 1, 4, none⟩ = some (I ap) ∧ W.cell? ⟨w.heap.size + 1 + 1, 5, none⟩ = some (I pe) ∧ W.cell? ⟨w.heap.size + 1 + 1 + 1, 0, none⟩ = some (I s1) ∧ W.cell? ⟨w.heap.size + 1 + 1 + 1, 1, none⟩ = some (I s2) ∧ W.cell? ⟨w.heap.size + 1 + 1 + 1, 2, none⟩ = some (I s3)) ∧ Below w.heap.size w W ∧ w.heap.size + 4 ≤ W.heap.size := fun W hB => by
    refine ⟨⟨?_, ?_, ?_, ?_, ?_, ?_, ?_, ?_, ?_, ?_, ?_, ?_, ?_⟩, (((((Below.refl _ w).alloc (Nat.le_refl _) _).alloc (by first | (simp; done) | (simp; omega)) _).alloc (by first | (simp; done) | (simp; omega)) _).alloc (by first | (simp; done) | (simp; omega)) _).trans (hB.mono (by omega)), by have := hB.size; simpa using this⟩
    iterate 3 (rw [hB.cell (p := ⟨w.heap.size, _, none⟩) (by simp)]; simp [go_sem])
    iterate 1 (rw [hB.cell (p := ⟨w.heap.size + 1, _, none⟩) (by simp)]; simp [go_sem])
    iterate 6 (rw [hB.cell (p := ⟨w.heap.size + 1 + 1, _, none⟩) (by simp)]; simp [go_sem])
    iterate 3 (rw [hB.cell (p := ⟨w.heap.size + 1 + 1 + 1, _, none⟩) (by simp)]; simp [go_sem])
  have HCE := Lib.hid hce
  clear hce
  have tok1 : True := trivial
  rcases hx with rfl | rfl
  all_goals
    go_enter Try.func8, Try.ntmps8
    go_wp2_with (first
      | (go_at_call 11; refine (HG.out _ (by (repeat' (first | assumption | exact Below.refl _ _ | refine Below.drew ?_ | refine below_drewN ?_ _ | refine Below.setCell ?_ (by first | omega | (simp; done) | (simp; omega)) _ | refine Below.alloc ?_ (by first | omega | (simp; done) | (simp; omega)) _ | refine Below.trans ?_ (Below.mono (by assumption) (by first | omega | (simp; done) | (simp; omega))))))).mono ?_; rintro e w1 ⟨_ | _, rfl, hB1⟩ <;> (have hw1 : Below (w.heap.size + 4) ((((w.alloc (.cells #[I wd, I fm, .slice A ra.length c] 29)).alloc (.cells #[.slice B l.length cb] 45)).alloc (.cells #[.slice Ap ps.length cp, .slice Al ls.length cl, I own, I wt, I ap, I pe] 24)).alloc (.cells #[I s1, I s2, I s3] 55)) w1 := (by simpa using hB1); obtain ⟨⟨c11, c12, c13, c14, c15, c16, c17, c18, c19, c110, c111, c112, c113⟩, hqw1, hzw1⟩ := HCE.out w1 hw1; clear hB1))
      | (go_at_call 25; refine (HB0.out w1 hqw1).mono ?_; rintro e w2 ⟨rfl, hB2⟩; have hw2 := hw1.trans (hB2.mono hzw1); obtain ⟨⟨c21, c22, c23, c24, c25, c26, c27, c28, c29, c210, c211, c212, c213⟩, hqw2, hzw2⟩ := HCE.out w2 hw2)
      | (go_at_call 27; refine (HMO.out w2 hqw2).mono ?_; rintro e w3 ⟨rfl, hB3⟩; have hw3 := hw2.trans (hB3.mono hzw2); obtain ⟨⟨c31, c32, c33, c34, c35, c36, c37, c38, c39, c310, c311, c312, c313⟩, hqw3, hzw3⟩ := HCE.out w3 hw3)
      | (go_at_call 29; refine (HAP.out w3 hqw3).mono ?_; rintro e w4 ⟨rfl, hB4⟩; have hw4 := hw3.trans (hB4.mono hzw3); obtain ⟨⟨c41, c42, c43, c44, c45, c46, c47, c48, c49, c410, c411, c412, c413⟩, hqw4, hzw4⟩ := HCE.out w4 hw4)
      | (go_at_call 13; refine (alive_any _).mono ?_; rintro e w8 ⟨rfl, hB8⟩))
    · go_ret
      exact ⟨rfl, hqw4.trans (hB8.mono hqw4.size)⟩
    · go_ret
      exact ⟨rfl, hqw1.trans (hB8.mono hqw1.size)⟩
end Go.Proofs.Ytilmlgngnbokfaa
