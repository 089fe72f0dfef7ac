/- GroundBreaks: the walk. -/
import Derived.Test.YtilmlgngnbokfaaY4
import Derived.Test.YtilmlgngnbokfaaEv
import Derived.Test.YtilmlgngnbokfaaG1
namespace Go.Proofs.Ytilmlgngnbokfaa
set_option linter.unusedVariables false
set_option linter.unusedSimpArgs false
open Go.RowKit

def Two (e : Ending) : Prop := ∃ a b : Int, e = .returned (.tuple #[I a, I b])
section
variable {g : Grd} {l : List (Int × Int × Int)} {d : Deck} {e e' : Ending}
theorem BrkPost.two (h : BrkPost g l d e) : Two e := by
  rcases h with ⟨_, rfl⟩ | ⟨_, _, rfl⟩ | ⟨_, _, _, rfl⟩ | ⟨_, _, _, rfl⟩ <;> exact ⟨_, _, rfl⟩
theorem MostPost.two (h : MostPost g l d e) : Two e := by
  rcases h with ⟨_, rfl⟩ | ⟨_, _, rfl⟩ | ⟨_, _, r, _, _, _, ⟨_, rfl⟩ | ⟨_, rfl⟩⟩ <;> exact ⟨_, _, rfl⟩
theorem ApartPost.two (h : ApartPost g l d e) : Two e := by
  rcases h with ⟨_, rfl⟩ | ⟨_, _, rfl⟩ | ⟨_, _, r, _, _, _, ⟨_, rfl⟩ | ⟨_, rfl⟩⟩ <;> exact ⟨_, _, rfl⟩
theorem BrkPost.same (h : BrkPost g l d e) (h' : BrkPost g l d e') : e = e' := by
  rcases h with ⟨h1, rfl⟩ | ⟨h1, h2, rfl⟩ | ⟨h1, h2, h3, rfl⟩ | ⟨h1, h2, h3, rfl⟩ <;>
    rcases h' with ⟨k1, rfl⟩ | ⟨k1, k2, rfl⟩ | ⟨k1, k2, k3, rfl⟩ | ⟨k1, k2, k3, rfl⟩ <;>
      first | rfl | (exfalso; first | exact h1 k1 | exact k1 h1 | omega)
theorem MostPost.same (h : MostPost g l d e) (h' : MostPost g l d e') : e = e' := by
  rcases h with ⟨h1, rfl⟩ | ⟨h1, h2, rfl⟩ | ⟨h1, h2, r, h3, h4, h5, h6⟩ <;>
    rcases h' with ⟨k1, rfl⟩ | ⟨k1, k2, rfl⟩ | ⟨k1, k2, s, k3, k4, k5, k6⟩ <;>
      first | rfl | (exfalso; first | exact h1 k1 | exact k1 h1 | omega) | skip
  have key : ∀ r s : Nat, s ≤ 101 → (r < 101 → bearsB (d.pe r) (crustL g.radar l) g.firm = false) → (0 < s → bearsB (d.pe (s - 1 : Nat)) (crustL g.radar l) g.firm = true) → ¬ r < s := fun r s hs hr hb hlt => by
    have := bears_pe h1.2 (show (r : Int) ≤ ((s - 1 : Nat) : Int) by omega) (hb (by omega))
    rw [hr (by omega)] at this
    cases this
  have := key r s k3 h5 k4
  have := key s r h3 k5 h4
  obtain rfl : r = s := by omega
  rcases h6 with ⟨a, rfl⟩ | ⟨a, rfl⟩ <;> rcases k6 with ⟨b, rfl⟩ | ⟨b, rfl⟩ <;> first | rfl | omega
theorem ApartPost.same (h : ApartPost g l d e) (h' : ApartPost g l d e') : e = e' := by
  rcases h with ⟨h1, rfl⟩ | ⟨h1, h2, rfl⟩ | ⟨h1, h2, r, h3, h4, h5, h6⟩ <;>
    rcases h' with ⟨k1, rfl⟩ | ⟨k1, k2, rfl⟩ | ⟨k1, k2, s, k3, k4, k5, k6⟩ <;>
      first | rfl | (exfalso; first | exact h1 k1 | exact k1 h1 | omega) | skip
  have key : ∀ r s : Nat, s ≤ 400 → (r < 400 → bearsB (d.ap (r + 1)) (crustL g.radar l) g.firm = true) → (0 < s → bearsB (d.ap ((s - 1 : Nat) + 1)) (crustL g.radar l) g.firm = false) → ¬ r < s := fun r s hs hr hb hlt => by
    have := bears_ap h1.2 (show (1 : Int) ≤ (r : Int) + 1 by omega) (show (r : Int) + 1 ≤ ((s - 1 : Nat) : Int) + 1 by omega) (by omega) (hr (by omega))
    rw [hb (by omega)] at this
    cases this
  have := key r s k3 h5 k4
  have := key s r h3 k5 h4
  obtain rfl : r = s := by omega
  rcases h6 with ⟨a, rfl⟩ | ⟨a, rfl⟩ <;> rcases k6 with ⟨b, rfl⟩ | ⟨b, rfl⟩ <;> first | rfl | omega
end

set_option maxRecDepth 100000 in
set_option maxHeartbeats 4000000 in
theorem breaks7_any (A : Option Addr) (c : Nat) (g : Grd) (B : Option Addr) (cb : Nat) (l : List (Int × Int × Int)) (Ap Al : Option Addr) (cp cl : Nat) (d : Deck) (w : World) (ha : Args w A g B l Ap Al d) :
    Calls Try.prog 7 #[g.val A c, .slice B l.length cb, d.val Ap Al cp cl] w fun e w' => e = .returned (.bool true) ∧ Below w.heap.size w w' := by
  have hG : ∀ W, Below w.heap.size w W → Calls Try.prog 11 #[g.val A c, .slice B l.length cb, d.val Ap Al cp cl] W (RetSome W) := fun W hB =>
    great_any A c g B cb l.length Ap Al cp cl d W (ha.below hB).hb ha.hbl
  have hBrk : ∀ W, Below w.heap.size w W → Calls Try.prog 25 #[g.val A c, .slice B l.length cb, d.val Ap Al cp cl] W fun e w' => (∃ x y : Int, e = .returned (.tuple #[I x, I y]) ∧ BrkPost g l d (.returned (.tuple #[I x, I y]))) ∧ Below W.heap.size W w' := fun W hB =>
    (Breaks_any A c g B cb l Ap Al cp cl d W (ha.below hB)).mono fun e w' ⟨h1, h2⟩ => ⟨by obtain ⟨x, y, rfl⟩ := h1.two; exact ⟨x, y, rfl, h1⟩, h2⟩
  have kBrk : ∀ (x y : Int), BrkPost g l d (.returned (.tuple #[I x, I y])) → ∀ W, Below w.heap.size w W → Calls Try.prog 26 #[g.val A c, .slice B l.length cb, d.val Ap Al cp cl] W fun e w' => e = .returned (.tuple #[I x, I y]) ∧ Below W.heap.size W w' := fun x y hxy W hB =>
    (refBreaks_any A c g B cb l Ap Al cp cl d W (ha.below hB)).mono fun e w' ⟨h1, h2⟩ => ⟨h1.same hxy, h2⟩
  generalize BrkPost g l d = PBrk at hBrk kBrk
  have hMo : ∀ W, Below w.heap.size w W → Calls Try.prog 27 #[g.val A c, .slice B l.length cb, d.val Ap Al cp cl] W fun e w' => (∃ x y : Int, e = .returned (.tuple #[I x, I y]) ∧ MostPost g l d (.returned (.tuple #[I x, I y]))) ∧ Below W.heap.size W w' := fun W hB =>
    (Most_any A c g B cb l Ap Al cp cl d W (ha.below hB)).mono fun e w' ⟨h1, h2⟩ => ⟨by obtain ⟨x, y, rfl⟩ := h1.two; exact ⟨x, y, rfl, h1⟩, h2⟩
  have kMo : ∀ (x y : Int), MostPost g l d (.returned (.tuple #[I x, I y])) → ∀ W, Below w.heap.size w W → Calls Try.prog 28 #[g.val A c, .slice B l.length cb, d.val Ap Al cp cl] W fun e w' => e = .returned (.tuple #[I x, I y]) ∧ Below W.heap.size W w' := fun x y hxy W hB =>
    (refMost_any A c g B cb l Ap Al cp cl d W (ha.below hB)).mono fun e w' ⟨h1, h2⟩ => ⟨h1.same hxy, h2⟩
  generalize MostPost g l d = PMo at hMo kMo
  have hAp : ∀ W, Below w.heap.size w W → Calls Try.prog 29 #[g.val A c, .slice B l.length cb, d.val Ap Al cp cl] W fun e w' => (∃ x y : Int, e = .returned (.tuple #[I x, I y]) ∧ ApartPost g l d (.returned (.tuple #[I x, I y]))) ∧ Below W.heap.size W w' := fun W hB =>
    (Apart_any A c g B cb l Ap Al cp cl d W (ha.below hB)).mono fun e w' ⟨h1, h2⟩ => ⟨by obtain ⟨x, y, rfl⟩ := h1.two; exact ⟨x, y, rfl, h1⟩, h2⟩
  have kAp : ∀ (x y : Int), ApartPost g l d (.returned (.tuple #[I x, I y])) → ∀ W, Below w.heap.size w W → Calls Try.prog 30 #[g.val A c, .slice B l.length cb, d.val Ap Al cp cl] W fun e w' => e = .returned (.tuple #[I x, I y]) ∧ Below W.heap.size W w' := fun x y hxy W hB =>
    (refApart_any A c g B cb l Ap Al cp cl d W (ha.below hB)).mono fun e w' ⟨h1, h2⟩ => ⟨h1.same hxy, h2⟩
  generalize ApartPost g l d = PAp at hAp kAp
  clear ha
  obtain ⟨wd, fm, ra⟩ := g
  obtain ⟨ps, ls, own, wt, ap, pe⟩ := d
  simp only [Grd.val, Deck.val] at *
  have HG := Lib.hid hG
  have H1 := Lib.hid hBrk; have H2 := Lib.hid kBrk; have H3 := Lib.hid hMo; have H4 := Lib.hid kMo; have H5 := Lib.hid hAp; have H6 := Lib.hid kAp
  clear hG hBrk kBrk hMo kMo hAp kAp
  have hce : ∀ W, Below (w.heap.size + 2) ((w.alloc (.cells #[I wd, I fm, .slice A ra.length c] 29)).alloc (.cells #[.slice Ap ps.length cp, .slice Al ls.length cl, I own, I wt, I ap, I pe] 24)) W →
      (W.cell? ⟨w.heap.size, 0, none⟩ = some (I wd) ∧ W.cell? ⟨w.heap.size, 1, none⟩ = some (I fm) ∧ W.cell? ⟨w.heap.size, 2, none⟩ = some (.slice A ra.length c) ∧ W.cell? ⟨w.heap.size + 1, 0, none⟩ = some (.slice Ap ps.length cp) ∧ W.cell? ⟨w.heap.size + 1, 1, none⟩ = some (.slice Al ls.length cl) ∧ W.cell? ⟨w.heap.size + 1, 2, none⟩ = some (I own) ∧ W.cell? ⟨w.heap.size + 1, 3, none⟩ = some (I wt) ∧ W.cell? ⟨w.heap.size + 1, 4, none⟩ = some (I ap) ∧ W.cell? ⟨w.heap.size + 1, 5, none⟩ = some (I pe)) ∧ Below w.heap.size w W ∧ w.heap.size + 2 ≤ W.heap.size := fun W hB => by
    refine ⟨⟨?_, ?_, ?_, ?_, ?_, ?_, ?_, ?_, ?_⟩, (((Below.refl _ w).alloc (Nat.le_refl _) _).alloc (by simp) _).trans (hB.mono (by omega)), by have := hB.size; simpa using this⟩
    iterate 3 (rw [hB.cell (p := ⟨w.heap.size, _, none⟩) (by simp)]; simp [go_sem])
    iterate 6 (rw [hB.cell (p := ⟨w.heap.size + 1, _, none⟩) (by simp)]; simp [go_sem])
  have HCE := Lib.hid hce
  clear hce
  go_enter Try.func7, Try.ntmps7
  go_wp2_with (first
    | (go_at_call 11; refine (HG.out _ (by (repeat' (first | assumption | exact Below.refl _ _ | refine Below.drew ?_ | refine below_drewN ?_ _ | refine Below.setCell ?_ (by first | omega | (simp; done) | (simp; omega)) _ | refine Below.alloc ?_ (by first | omega | (simp; done) | (simp; omega)) _ | refine Below.trans ?_ (Below.mono (by assumption) (by first | omega | (simp; done) | (simp; omega))))))).mono ?_; rintro e w1 ⟨_ | _, rfl, hB1⟩
       all_goals (have hw1 : Below (w.heap.size + 2) ((w.alloc (.cells #[I wd, I fm, .slice A ra.length c] 29)).alloc (.cells #[.slice Ap ps.length cp, .slice Al ls.length cl, I own, I wt, I ap, I pe] 24)) w1 := (by simpa using hB1); obtain ⟨⟨a1, a2, a3, a4, a5, a6, a7, a8, a9⟩, hqw1, hzw1⟩ := HCE.out w1 hw1; clear hB1))
    | (go_at_call 25; refine (H1.out w1 hqw1).mono ?_; rintro e w2 ⟨⟨x1, y1, rfl, p1⟩, hB⟩; have hw2 := hw1.trans (hB.mono hzw1); obtain ⟨⟨w2c1, w2c2, w2c3, w2c4, w2c5, w2c6, w2c7, w2c8, w2c9⟩, hqw2, hzw2⟩ := HCE.out w2 hw2; clear hB)
    | (go_at_call 26; refine (H2.out x1 y1 p1 w2 hqw2).mono ?_; rintro e w3 ⟨rfl, hB⟩; have hw3 := hw2.trans (hB.mono hzw2); obtain ⟨⟨w3c1, w3c2, w3c3, w3c4, w3c5, w3c6, w3c7, w3c8, w3c9⟩, hqw3, hzw3⟩ := HCE.out w3 hw3; clear hB)
    | (go_at_call 27; refine (H3.out w3 hqw3).mono ?_; rintro e w4 ⟨⟨x2, y2, rfl, p2⟩, hB⟩; have hw4 := hw3.trans (hB.mono hzw3); obtain ⟨⟨w4c1, w4c2, w4c3, w4c4, w4c5, w4c6, w4c7, w4c8, w4c9⟩, hqw4, hzw4⟩ := HCE.out w4 hw4; clear hB)
    | (go_at_call 28; refine (H4.out x2 y2 p2 w4 hqw4).mono ?_; rintro e w5 ⟨rfl, hB⟩; have hw5 := hw4.trans (hB.mono hzw4); obtain ⟨⟨w5c1, w5c2, w5c3, w5c4, w5c5, w5c6, w5c7, w5c8, w5c9⟩, hqw5, hzw5⟩ := HCE.out w5 hw5; clear hB)
    | (go_at_call 29; refine (H5.out w5 hqw5).mono ?_; rintro e w6 ⟨⟨x3, y3, rfl, p3⟩, hB⟩; have hw6 := hw5.trans (hB.mono hzw5); obtain ⟨⟨w6c1, w6c2, w6c3, w6c4, w6c5, w6c6, w6c7, w6c8, w6c9⟩, hqw6, hzw6⟩ := HCE.out w6 hw6; clear hB)
    | (go_at_call 30; refine (H6.out x3 y3 p3 w6 hqw6).mono ?_; rintro e w7 ⟨rfl, hB⟩; have hw7 := hw6.trans (hB.mono hzw6); obtain ⟨⟨w7c1, w7c2, w7c3, w7c4, w7c5, w7c6, w7c7, w7c8, w7c9⟩, hqw7, hzw7⟩ := HCE.out w7 hw7; clear hB)
    | (go_at_call 13; refine (alive_any _).mono ?_; rintro e w8 ⟨rfl, hB8⟩))
  · go_ret
    exact ⟨rfl, hqw7.trans (hB8.mono hqw7.size)⟩
  · go_ret
    exact ⟨rfl, hqw1.trans (hB8.mono hqw1.size)⟩
end Go.Proofs.Ytilmlgngnbokfaa
