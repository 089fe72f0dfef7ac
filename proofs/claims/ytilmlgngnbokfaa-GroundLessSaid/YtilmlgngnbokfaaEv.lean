/- The example's numbers. -/
import Derived.Test.YtilmlgngnbokfaaG2
import Derived.Test.YtilmlgngnbokfaaQ
namespace Go.Proofs.Ytilmlgngnbokfaa
set_option linter.unusedVariables false
set_option linter.unusedSimpArgs false
open Go.RowKit

/-- The pressures, to be reckoned. -/
def bestB (l r wt ap pe : Int) : Nat → Int
  | 0 => 0
  | k + 1 => max (bestB l r wt ap pe k) (bs pe.toNat (valsU l r wt ap k))
theorem best_B {l r wt ap pe : Int} (hl : 0 ≤ l ∧ l ≤ 200) (hr : 0 ≤ r ∧ r ≤ 200) (hwt : 0 ≤ wt ∧ wt ≤ 500) (hap : 1 ≤ ap ∧ ap ≤ 400) : ∀ k : Nat, (k : Int) ≤ ap → bestU l r wt ap pe k = bestB l r wt ap pe k
  | 0, _ => rfl
  | k + 1, h => by
    unfold bestU bestB
    rw [best_B hl hr hwt hap k (by omega), topS_bs _ _ (vals_nonneg hl hr ⟨by omega, by omega⟩ hwt hap)]
def presB (d : Deck) (i : Nat) : Int :=
  bestB (leftOf d.lengths i) (rightOf d.lengths i) d.weight d.apart d.persons (min d.apart (max (leftOf d.lengths i) (rightOf d.lengths i) + 1)).toNat + halfU (leftOf d.lengths i) (rightOf d.lengths i) d.own
theorem pres_B {d : Deck} {c : Int} (h : d.ok c) (i : Nat) : presN d i = presB d i := by
  obtain ⟨hl, hr⟩ := beam_bd h i
  obtain ⟨_, _, _, _, _, _, o5, o6, _⟩ := h
  unfold presN presB loadU
  rw [best_B hl hr o5 o6 _ (by omega)]
def bearsD (d : Deck) (cr : List (Int × Int)) (firm : Int) : Bool := decide (idxI (fun i => decide (iceOf d cr firm i * presC d i < presB d i)) (List.range d.posts.length) < 0)
theorem bears_D {d : Deck} {c : Int} (h : d.ok c) (cr : List (Int × Int)) (firm : Int) : bearsB d cr firm = bearsD d cr firm := by
  have : brk d cr firm = fun i => decide (iceOf d cr firm i * presC d i < presB d i) := by funext i; unfold brk; rw [pres_B h]
  unfold bearsB bearsD brkI
  rw [this]

theorem d0_ok3 : d0.ok 3 := by unfold Deck.ok DeckOk d0; decide
theorem d0_ok400 : d0.ok 400 := by unfold Deck.ok DeckOk d0; decide
theorem g0_ok : g0.ok := by unfold Grd.ok GrdOk g0 thick; decide
theorem snd0_ok : SndOk 3 l0 := by unfold SndOk sndP l0 thick; decide
theorem nil_ok : SndOk 3 [] := ⟨by decide, fun k h => by simp at h⟩
theorem presN0_1 : presN d0 1 = 300000 := by rw [pres_B d0_ok3]; decide +kernel
theorem pres0_1 : pres d0 1 = (250, 1) := by unfold pres; rw [presN0_1]; decide +kernel
theorem wr0 : wrongI g0.radar l0 = -1 := by decide +kernel
theorem wrn : wrongI g0.radar [] = -1 := by decide +kernel
theorem most2 : bearsB (d0.pe 2) (crustL g0.radar []) 1 = true := by rw [bears_D (Deck.pe_ok d0_ok3 (by decide))]; decide +kernel
theorem most3 : bearsB (d0.pe 3) (crustL g0.radar []) 1 = false := by rw [bears_D (Deck.pe_ok d0_ok3 (by decide))]; decide +kernel
theorem ap10 : bearsB (d0.ap 10) (crustL g0.radar l0) 1 = true := by rw [bears_D (Deck.ap_ok d0_ok3 (by decide))]; decide +kernel
theorem ap9 : bearsB (d0.ap 9) (crustL g0.radar l0) 1 = false := by rw [bears_D (Deck.ap_ok d0_ok3 (by decide))]; decide +kernel
theorem all0 : AllOk g0 l0 d0 := ⟨⟨g0_ok, snd0_ok⟩, d0_ok3⟩
theorem alln : AllOk g0 [] d0 := ⟨⟨g0_ok, nil_ok⟩, d0_ok3⟩

theorem load0_1 : loadRes d0 1 = ((250, 1), 0) := by
  unfold loadRes
  rw [if_pos d0_ok400, if_pos (by decide)]
  exact congrArg (·, (0 : Int)) pres0_1

theorem mostPost_of {g : Grd} {l : List (Int × Int × Int)} {d : Deck} {e : Ending} (h : MostPost g l d e) (ha : AllOk g l d) (hw : wrongI g.radar l < 0) (n : Nat) (hn : n ≤ 100)
    (h1 : bearsB (d.pe n) (crustL g.radar l) g.firm = true) (h2 : n < 100 → bearsB (d.pe (n + 1)) (crustL g.radar l) g.firm = false) : e = .returned (.tuple #[I n, I 0]) := by
  rcases h with ⟨h, _⟩ | ⟨_, h, _⟩ | ⟨_, _, r, hr, a1, a2, h⟩
  · exact absurd ha h
  · omega
  · have hr' : r = n + 1 := by
      rcases Nat.lt_trichotomy r (n + 1) with hlt | he | hgt
      · have := a2 (by omega)
        rw [bears_pe ha.2 (show (r : Int) ≤ n by omega) h1] at this
        cases this
      · exact he
      · have := bears_pe ha.2 (show ((n + 1 : Nat) : Int) ≤ (r - 1 : Nat) by omega) (a1 (by omega))
        rw [show ((n + 1 : Nat) : Int) = (n : Int) + 1 by omega, h2 (by omega)] at this
        cases this
    subst hr'
    rcases h with ⟨h, _⟩ | ⟨_, h⟩
    · omega
    · rw [h, show (((n + 1 : Nat) : Int) - 1) = n by omega]
theorem apartPost_of {g : Grd} {l : List (Int × Int × Int)} {d : Deck} {e : Ending} (h : ApartPost g l d e) (ha : AllOk g l d) (hw : wrongI g.radar l < 0) (n : Nat) (hn : 1 ≤ n ∧ n ≤ 400)
    (h1 : bearsB (d.ap n) (crustL g.radar l) g.firm = true) (h2 : 1 < n → bearsB (d.ap (n - 1)) (crustL g.radar l) g.firm = false) : e = .returned (.tuple #[I n, I 0]) := by
  rcases h with ⟨h, _⟩ | ⟨_, h, _⟩ | ⟨_, _, r, hr, a1, a2, h⟩
  · exact absurd ha h
  · omega
  · have hr' : r + 1 = n := by
      rcases Nat.lt_trichotomy (r + 1) n with hlt | he | hgt
      · have := bears_ap ha.2 (show (1 : Int) ≤ (r : Int) + 1 by omega) (show (r : Int) + 1 ≤ (n : Int) - 1 by omega) (by omega) (a2 (by omega))
        rw [h2 (by omega)] at this
        cases this
      · exact he
      · have := a1 (by omega)
        rw [bears_ap ha.2 (show (1 : Int) ≤ n by omega) (show (n : Int) ≤ (r - 1 : Nat) + 1 by omega) (by omega) h1] at this
        cases this
    subst hr'
    rcases h with ⟨h, _⟩ | ⟨_, h⟩
    · omega
    · rw [h]; rfl
theorem most0 {e : Ending} (h : MostPost g0 [] d0 e) : e = .returned (.tuple #[I 2, I 0]) := mostPost_of h alln (by rw [wrn]; decide) 2 (by omega) most2 (fun _ => most3)
theorem apart0 {e : Ending} (h : ApartPost g0 l0 d0 e) : e = .returned (.tuple #[I 10, I 0]) := apartPost_of h all0 (by rw [wr0]; decide) 10 (by omega) ap10 (fun _ => ap9)

abbrev g0V (A : Option Addr) : Value := .agg #[I 3, I 1, .slice A 3 3]
abbrev d0V (Ap Al : Option Addr) : Value := .agg #[.slice Ap 3 3, .slice Al 2 2, I 2, I 80, I 10, I 4]
theorem sample_val (w : World) : Calls Try.prog 35 #[] w fun e w' => ∃ A B Ap Al, e = .returned (.tuple #[g0V A, .slice B 1 1, d0V Ap Al]) ∧ Args w' A g0 B l0 Ap Al d0 ∧ Below w.heap.size w w' := sample_any w
theorem Args.none {w : World} {A B Ap Al : Option Addr} {g : Grd} {d : Deck} {l : List (Int × Int × Int)} (h : Args w A g B l Ap Al d) (B' : Option Addr) : Args w A g B' [] Ap Al d :=
  ⟨h.hr, fun h => by simp at h, h.hrl, by decide, h.hp, h.hb, h.hpl, h.hbl⟩
theorem load0_any (Ap Al : Option Addr) (W : World) {A B : Option Addr} {l : List (Int × Int × Int)} (h : Args W A g0 B l Ap Al d0) :
    Calls Try.prog 14 #[d0V Ap Al, I 1] W fun e w' => e = .returned (.tuple #[.agg #[I 250, I 1], I 0]) ∧ Below W.heap.size W w' := by
  have := Load_any Ap Al 3 2 d0 1 W h.hp h.hb (by decide) (by decide)
  rw [load0_1] at this
  exact this
theorem most0_any (A Ap Al : Option Addr) (W : World) {B : Option Addr} {l : List (Int × Int × Int)} (h : Args W A g0 B l Ap Al d0) :
    Calls Try.prog 27 #[g0V A, .slice none 0 0, d0V Ap Al] W fun e w' => e = .returned (.tuple #[I 2, I 0]) ∧ Below W.heap.size W w' :=
  (Most_any A 3 g0 Option.none 0 [] Ap Al 3 2 d0 W (h.none Option.none)).mono (fun e w' h => ⟨most0 h.1, h.2⟩)
theorem apart0_any (A B Ap Al : Option Addr) (W : World) (h : Args W A g0 B l0 Ap Al d0) :
    Calls Try.prog 29 #[g0V A, .slice B 1 1, d0V Ap Al] W fun e w' => e = .returned (.tuple #[I 10, I 0]) ∧ Below W.heap.size W w' :=
  (Apart_any A 3 g0 B 1 l0 Ap Al 3 2 d0 W h).mono (fun e w' h => ⟨apart0 h.1, h.2⟩)

set_option maxRecDepth 100000 in
set_option maxHeartbeats 1000000 in
theorem alive_any (w : World) : Calls Try.prog 13 #[] w fun e w' => e = .returned (.bool true) ∧ Below w.heap.size w w' := by
  go_enter Try.func13, Try.ntmps13
  go_wp2_with (first
    | (go_at_call 35; refine (sample_val _).mono ?_; rintro e w1 ⟨A, B, Ap, Al, rfl, ha, hB⟩; have hz := hB.size; have HARG := Lib.hid ha; clear ha)
    | (go_at_call 14; refine (load0_any _ _ _ (HARG.out.below (by (repeat' (first | assumption | exact Below.refl _ _ | refine Below.drew ?_ | refine below_drewN ?_ _ | refine Below.setCell ?_ (by first | omega | (simp; done) | (simp; omega)) _ | refine Below.alloc ?_ (by first | omega | (simp; done) | (simp; omega)) _ | refine Below.trans ?_ (Below.mono (by assumption) (by first | omega | (simp; done) | (simp; omega)))))))).mono ?_; rintro e w2 ⟨rfl, hB2⟩; obtain ⟨hc2, hf2⟩ := bcell hB2; have hz2 := hB2.size; simp at hz2; have hz21 : w1.heap.size + 1 < w2.heap.size := (by omega); have hz20 : w1.heap.size < w2.heap.size := (by omega); have hb2 : Below w1.heap.size w1 w2 := below_call (by (repeat' (first | assumption | exact Below.refl _ _ | refine Below.drew ?_ | refine below_drewN ?_ _ | refine Below.setCell ?_ (by first | omega | (simp; done) | (simp; omega)) _ | refine Below.alloc ?_ (by first | omega | (simp; done) | (simp; omega)) _ | refine Below.trans ?_ (Below.mono (by assumption) (by first | omega | (simp; done) | (simp; omega)))))) hB2)
    | (go_at_call 27; refine (most0_any _ _ _ _ (HARG.out.below (by (repeat' (first | assumption | exact Below.refl _ _ | refine Below.drew ?_ | refine below_drewN ?_ _ | refine Below.setCell ?_ (by first | omega | (simp; done) | (simp; omega)) _ | refine Below.alloc ?_ (by first | omega | (simp; done) | (simp; omega)) _ | refine Below.trans ?_ (Below.mono (by assumption) (by first | omega | (simp; done) | (simp; omega)))))))).mono ?_; rintro e w3 ⟨rfl, hB3⟩; obtain ⟨hc3, hf3⟩ := bcell hB3; have hz3 := hB3.size; have hz30 : w2.heap.size < w3.heap.size := (by simp at hz3; omega); have hb3 : Below w1.heap.size w1 w3 := below_call (by (repeat' (first | assumption | exact Below.refl _ _ | refine Below.drew ?_ | refine below_drewN ?_ _ | refine Below.setCell ?_ (by first | omega | (simp; done) | (simp; omega)) _ | refine Below.alloc ?_ (by first | omega | (simp; done) | (simp; omega)) _ | refine Below.trans ?_ (Below.mono (by assumption) (by first | omega | (simp; done) | (simp; omega)))))) hB3)
    | (go_at_call 29; refine (apart0_any _ _ _ _ _ (HARG.out.below (by (repeat' (first | assumption | exact Below.refl _ _ | refine Below.drew ?_ | refine below_drewN ?_ _ | refine Below.setCell ?_ (by first | omega | (simp; done) | (simp; omega)) _ | refine Below.alloc ?_ (by first | omega | (simp; done) | (simp; omega)) _ | refine Below.trans ?_ (Below.mono (by assumption) (by first | omega | (simp; done) | (simp; omega)))))))).mono ?_; rintro e w4 ⟨rfl, hB4⟩; obtain ⟨hc4, hf4⟩ := bcell hB4; have hz4 := hB4.size; have hb4 : Below w1.heap.size w1 w4 := below_call (by (repeat' (first | assumption | exact Below.refl _ _ | refine Below.drew ?_ | refine below_drewN ?_ _ | refine Below.setCell ?_ (by first | omega | (simp; done) | (simp; omega)) _ | refine Below.alloc ?_ (by first | omega | (simp; done) | (simp; omega)) _ | refine Below.trans ?_ (Below.mono (by assumption) (by first | omega | (simp; done) | (simp; omega)))))) hB4))
  go_ret
  exact ⟨rfl, hB.trans (hb4.mono hz)⟩
end Go.Proofs.Ytilmlgngnbokfaa
