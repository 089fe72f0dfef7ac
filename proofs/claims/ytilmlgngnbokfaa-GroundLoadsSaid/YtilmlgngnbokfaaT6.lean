/- GroundLoads: the walk. -/
import Derived.Test.YtilmlgngnbokfaaX6
import Derived.Test.YtilmlgngnbokfaaX8
import Derived.Test.YtilmlgngnbokfaaEv
import Derived.Test.YtilmlgngnbokfaaG1
namespace Go.Proofs.Ytilmlgngnbokfaa
set_option linter.unusedVariables false
set_option linter.unusedSimpArgs false
open Go.RowKit

open Classical in
noncomputable def crRes (g : Grd) (l : List (Int × Int × Int)) : List (Int × Int) × Int × Int :=
  if GSOk g l then (if 0 ≤ wrongI g.radar l then ([], wrongI g.radar l, 6) else (crustL g.radar l, g.radar.length, 0)) else ([], 0, 1)
def CrOut (r : List (Int × Int) × Int × Int) (w : World) (e : Ending) (w' : World) : Prop :=
  ∃ A cap, e = .returned (.tuple #[.slice A r.1.length cap, I r.2.1, I r.2.2]) ∧ Pairs w' w'.heap.size A r.1 ∧ r.1.length ≤ 9223372036854775807 ∧ Below w.heap.size w w'
theorem crOut {g : Grd} {l : List (Int × Int × Int)} {w w' : World} {e : Ending} (h : CrustPost g l w e w') (hrl : g.radar.length ≤ 9223372036854775807) : CrOut (crRes g l) w e w' := by
  obtain ⟨hB, h⟩ := h
  unfold crRes
  rcases h with ⟨h1, rfl⟩ | ⟨h1, h2, rfl⟩ | ⟨h1, h2, gg, cap, rfl, h3, h4, h5, h6, h7⟩
  · rw [if_neg h1]; exact ⟨_, _, rfl, fun h => by simp at h, by simp, hB⟩
  · rw [if_pos h1, if_pos h2]; exact ⟨_, _, rfl, fun h => by simp at h, by simp, hB⟩
  · rw [if_pos h1, if_neg (by omega)]
    have hl := crustL_length g.radar l
    exact ⟨_, cap, by rw [← hl], h7.pairs h6, by rw [hl]; exact hrl, hB⟩

set_option maxRecDepth 100000 in
set_option maxHeartbeats 2000000 in
theorem loads_any (A : Option Addr) (c : Nat) (g : Grd) (B : Option Addr) (cb : Nat) (l : List (Int × Int × Int)) (Ap Al : Option Addr) (cp cl : Nat) (d : Deck) (po : Int) (w : World) (ha : Args w A g B l Ap Al d) :
    Calls Try.prog 6 #[g.val A c, .slice B l.length cb, d.val Ap Al cp cl, I po] w fun e w' => e = .returned (.bool true) ∧ Below w.heap.size w w' := by
  have hG : ∀ W, Below w.heap.size w W → Calls Try.prog 11 #[g.val A c, .slice B l.length cb, d.val Ap Al cp cl] W (RetSome W) := fun W hB =>
    great_any A c g B cb l.length Ap Al cp cl d W (ha.below hB).hb ha.hbl
  have hC : ∀ W, Below w.heap.size w W → Calls Try.prog 21 #[g.val A c, .slice B l.length cb] W (CrOut (crRes g l) W) := fun W hB =>
    (Crust_any A c g B cb l W (ha.below hB).hr (ha.below hB).hl ha.hrl ha.hll).mono fun e w' h => crOut h ha.hrl
  have hC2 : ∀ W, Below w.heap.size w W → Calls Try.prog 22 #[g.val A c, .slice B l.length cb] W (CrOut (crRes g l) W) := fun W hB =>
    (refCrust_any A c g B cb l W (ha.below hB).hr (ha.below hB).hl ha.hrl ha.hll).mono fun e w' h => crOut h ha.hrl
  have hL : ∀ W, Below w.heap.size w W → Calls Try.prog 14 #[d.val Ap Al cp cl, I po] W fun e w' => e = .returned (prV (loadRes d po)) ∧ Below W.heap.size W w' := fun W hB =>
    Load_any Ap Al cp cl d po W (ha.below hB).hp (ha.below hB).hb ha.hpl ha.hbl
  have hL2 : ∀ W, Below w.heap.size w W → Calls Try.prog 23 #[d.val Ap Al cp cl, I po] W fun e w' => e = .returned (prV (loadRes d po)) ∧ Below W.heap.size W w' := fun W hB =>
    refLoad_any Ap Al cp cl d po W (ha.below hB).hp (ha.below hB).hb ha.hpl ha.hbl
  have hS := fun A' c' B' c'' W h1 h2 h3 => (spans_any A' c' (crRes g l).1 B' c'' (crRes g l).1 W h1 h2 h3 h3).mono (R' := fun e w' => e = .returned (.bool true) ∧ Below W.heap.size W w') (fun e w' ⟨b, h1, h2, h3⟩ => ⟨by rw [h1, show b = true from h2.2 rfl], h3⟩)
  generalize crRes g l = cr at *
  generalize loadRes d po = lr at *
  obtain ⟨crx, crm, cre⟩ := cr
  obtain ⟨⟨p1, p2⟩, pe2⟩ := lr
  simp only [CrOut, prV] at *
  clear ha
  obtain ⟨wd, fm, ra⟩ := g
  obtain ⟨ps, ls, own, wt, ap, pe⟩ := d
  simp only [Grd.val, Deck.val] at *
  have HG := Lib.hid hG; have HC := Lib.hid hC; have HC2 := Lib.hid hC2; have HL := Lib.hid hL; have HL2 := Lib.hid hL2; have HS := Lib.hid hS
  clear hG hC hC2 hL hL2 hS
  have hce : ∀ W, Below (w.heap.size + 2) ((w.alloc (.cells #[I wd, I fm, .slice A ra.length c] 29)).alloc (.cells #[.slice Ap ps.length cp, .slice Al ls.length cl, I own, I wt, I ap, I pe] 24)) W →
      (W.cell? ⟨w.heap.size, 0, none⟩ = some (I wd) ∧ W.cell? ⟨w.heap.size, 1, none⟩ = some (I fm) ∧ W.cell? ⟨w.heap.size, 2, none⟩ = some (.slice A ra.length c) ∧
      W.cell? ⟨w.heap.size + 1, 0, none⟩ = some (.slice Ap ps.length cp) ∧ W.cell? ⟨w.heap.size + 1, 1, none⟩ = some (.slice Al ls.length cl) ∧ W.cell? ⟨w.heap.size + 1, 2, none⟩ = some (I own) ∧ W.cell? ⟨w.heap.size + 1, 3, none⟩ = some (I wt) ∧ W.cell? ⟨w.heap.size + 1, 4, none⟩ = some (I ap) ∧ W.cell? ⟨w.heap.size + 1, 5, none⟩ = some (I pe)) ∧
      Below w.heap.size w W ∧ w.heap.size + 2 ≤ W.heap.size := fun W hB => by
    refine ⟨⟨?_, ?_, ?_, ?_, ?_, ?_, ?_, ?_, ?_⟩, (((Below.refl _ w).alloc (Nat.le_refl _) _).alloc (by simp) _).trans (hB.mono (by omega)), by have := hB.size; simpa using this⟩
    iterate 3 (rw [hB.cell (p := ⟨w.heap.size, _, none⟩) (by simp)]; simp [go_sem])
    iterate 6 (rw [hB.cell (p := ⟨w.heap.size + 1, _, none⟩) (by simp)]; simp [go_sem])
  have HCE := Lib.hid hce
  clear hce
  go_enter Try.func6, Try.ntmps6
  go_wp2_with (first
    | (go_at_call 11; refine (HG.out _ (by (repeat' (first | assumption | exact Below.refl _ _ | refine Below.drew ?_ | refine below_drewN ?_ _ | refine Below.setCell ?_ (by first | omega | (simp; done) | (simp; omega)) _ | refine Below.alloc ?_ (by first | omega | (simp; done) | (simp; omega)) _ | refine Below.trans ?_ (Below.mono (by assumption) (by first | omega | (simp; done) | (simp; omega))))))).mono ?_; rintro e w1 ⟨_ | _, rfl, hB1⟩
       all_goals (have hb1 : Below (w.heap.size + 2) ((w.alloc (.cells #[I wd, I fm, .slice A ra.length c] 29)).alloc (.cells #[.slice Ap ps.length cp, .slice Al ls.length cl, I own, I wt, I ap, I pe] 24)) w1 := (by simpa using hB1); obtain ⟨⟨a1, a2, a3, a4, a5, a6, a7, a8, a9⟩, hq1, hz1⟩ := HCE.out w1 hb1))
    | (go_at_call 21; refine (HC.out w1 hq1).mono ?_; rintro e w2 ⟨A2, c2, rfl, hP2, hl2, hB2⟩; have hb2 := hb1.trans (hB2.mono hz1); obtain ⟨⟨b1, b2, b3, b4, b5, b6, b7, b8, b9⟩, hq2, hz2⟩ := HCE.out w2 hb2; have HP2 := Lib.hid hP2; clear hP2)
    | (go_at_call 22; refine (HC2.out w2 hq2).mono ?_; rintro e w3 ⟨A3, c3, rfl, hP3, hl3, hB3⟩; have hb3 := hb2.trans (hB3.mono hz2); obtain ⟨⟨d1, d2, d3, d4, d5, d6, d7, d8, d9⟩, hq3, hz3⟩ := HCE.out w3 hb3; have HP3 := Lib.hid hP3; clear hP3)
    | (go_at_call 14; refine (HL.out w3 hq3).mono ?_; rintro e w4 ⟨rfl, hB4⟩; have hb4 := (hb3.trans (hB4.mono hz3)).alloc (by have := (HCE.out _ (hb3.trans (hB4.mono hz3))).2.2; omega) (.cells #[I p1, I p2] 33); obtain ⟨⟨e1, e2, e3, e4, e5, e6, e7, e8, e9⟩, hq4, hz4⟩ := HCE.out _ hb4)
    | (go_at_call 23; refine (HL2.out _ hq4).mono ?_; rintro e w5 ⟨rfl, hB5⟩; obtain ⟨hc5, hf5⟩ := bcell hB5; have hz5 := hB5.size; have hz45 : w4.heap.size < w5.heap.size := (by simp at hz5; omega); have hb5 := hb4.trans (hB5.mono hz4))
    | (go_at_call 24; have k3 : Below w3.heap.size w3 (w5.alloc (.cells #[I p1, I p2] 33)) := (((hB4.alloc hB4.size _).trans (hB5.mono (by have := hB4.size; simp; omega))).alloc (by have := hB4.size; simp at hz5; omega) _); have k2 := hB3.trans (k3.mono hB3.size); refine (HS.out _ _ _ _ _ ((HP2.out.below k2).more k2.size) ((HP3.out.below k3).more k3.size) hl2).mono ?_; rintro e w6 ⟨rfl, hB6⟩; obtain ⟨hc6, hf6⟩ := bcell hB6; have hz6 := hB6.size; have hz56 : w5.heap.size < w6.heap.size := (by simp at hz6; omega); have hz46 : w4.heap.size < w6.heap.size := (by omega); have hq6 : Below w.heap.size w w6 := (hq3.trans (k3.mono hq3.size)).trans (hB6.mono (by have := hq3.size; have := k3.size; omega)))
    | (go_at_call 13; refine (alive_any _).mono ?_; rintro e w7 ⟨rfl, hB7⟩))
  · go_ret
    exact ⟨rfl, hq6.trans (hB7.mono hq6.size)⟩
  · go_ret
    exact ⟨rfl, hq1.trans (hB7.mono hq1.size)⟩
end Go.Proofs.Ytilmlgngnbokfaa
