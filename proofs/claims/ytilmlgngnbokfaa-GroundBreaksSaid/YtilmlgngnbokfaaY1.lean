/- The document's errors, breaks. -/
import Derived.Test.YtilmlgngnbokfaaX6
import Derived.Test.YtilmlgngnbokfaaX7
import Derived.Test.YtilmlgngnbokfaaBr
namespace Go.Proofs.Ytilmlgngnbokfaa
set_option linter.unusedVariables false
set_option linter.unusedSimpArgs false
open Go.RowKit

def ErrPost (g : Grd) (l : List (Int × Int × Int)) (d : Deck) (w : World) (e : Ending) (w' : World) : Prop :=
  Below w.heap.size w w' ∧
  ((¬ AllOk g l d ∧ e = .returned (.tuple #[.slice none 0 0, I 1])) ∨
   (AllOk g l d ∧ 0 ≤ wrongI g.radar l ∧ e = .returned (.tuple #[.slice none 0 0, I 6])) ∨
   (AllOk g l d ∧ wrongI g.radar l < 0 ∧ ∃ gg cap, e = .returned (.tuple #[.slice (some ⟨gg, 0, none⟩) g.radar.length cap, I 0]) ∧
      cap ≤ 9223372036854775807 ∧ g.radar.length ≤ cap ∧ w.heap.size ≤ gg ∧ gg < w'.heap.size ∧ Crust2 w' gg (crustL g.radar l)))

set_option maxRecDepth 100000 in
set_option maxHeartbeats 4000000 in
theorem errors_any (A : Option Addr) (c : Nat) (g : Grd) (B : Option Addr) (cb : Nat) (l : List (Int × Int × Int)) (Ap Al : Option Addr) (cp cl : Nat) (d : Deck) (w : World)
   (hr : Pairs w w.heap.size A g.radar) (hl : Threes w w.heap.size B l) (hrl : g.radar.length ≤ 9223372036854775807) (hll : l.length ≤ 9223372036854775807)
   (hp : Ints w w.heap.size Ap d.posts) (hb : Ints w w.heap.size Al d.lengths) (hpl : d.posts.length ≤ 9223372036854775807) (hbl : d.lengths.length ≤ 9223372036854775807) :
    Calls Try.prog 50 #[g.val A c, .slice B l.length cb, d.val Ap Al cp cl] w (ErrPost g l d w) := by
  have hG : ∀ W, Below w.heap.size w W → Calls Try.prog 31 #[g.val A c] W (RetB g.ok W) := fun W hB =>
    refGround_any A c g W ((hr.below hB).more hB.size) hrl
  have hS : ∀ W, Below w.heap.size w W → Calls Try.prog 45 #[.slice B l.length cb, I g.radar.length] W (RetB (SndOk g.radar.length l) W) := fun W hB =>
    refSnd_any B cb l _ W ((hl.below hB).more hB.size) hll (by omega)
  by_cases hg : g.ok
  · have hD : ∀ W, Below w.heap.size w W → Calls Try.prog 12 #[d.val Ap Al cp cl, I g.radar.length] W (RetB (d.ok g.radar.length) W) := fun W hB =>
      refDeck_any Ap Al cp cl d _ W ((hp.below hB).more hB.size) ((hb.below hB).more hB.size) hpl hbl (by have := hg.2.2.1; omega)
    by_cases hsn : SndOk g.radar.length l
    · by_cases hdk : d.ok g.radar.length
      · have hok : GSOk g l := ⟨hg, hsn⟩
        have hall : AllOk g l d := ⟨hok, hdk⟩
        have hC : ∀ W, Below w.heap.size w W → Calls Try.prog 46 #[g.val A c, .slice B l.length cb] W (crPost g.radar l W) := fun W hB =>
          crust46 A c g B cb l W ((hr.below hB).more hB.size) ((hl.below hB).more hB.size) hok.snd.1 hok.snd.2.1 hok.snd.2.2
        have hpp : ∀ W e w', Below w.heap.size w W → crPost g.radar l W e w' → Below w.heap.size w w' ∧ ((∃ n, e = .returned (.tuple #[.slice none 0 0, I n, .bool false]) ∧ ErrPost g l d w (.returned (.tuple #[.slice none 0 0, I 6])) w') ∨ (∃ gg cap, e = .returned (.tuple #[.slice (some ⟨gg, 0, none⟩) g.radar.length cap, I g.radar.length, .bool true]) ∧ ErrPost g l d w (.returned (.tuple #[.slice (some ⟨gg, 0, none⟩) g.radar.length cap, I 0])) w')) := fun W e w' hB h => by
          have hb2 := below_call hB h.1
          refine ⟨hb2, ?_⟩
          rcases h.2 with ⟨h1, h2⟩ | ⟨h1, gg, cap, h2, h3, h4, h5, h6, h7⟩
          · exact .inl ⟨_, h2, hb2, .inr (.inl ⟨hall, h1, rfl⟩)⟩
          · exact .inr ⟨gg, cap, h2, hb2, .inr (.inr ⟨hall, h1, gg, cap, rfl, h3, h4, by have := hB.size; omega, h6, h7⟩)⟩
        have HPP := Lib.hid hpp
        have HG := Lib.hid hg
        have HSN := Lib.hid hsn
        have HDK := Lib.hid hdk
        clear hpp hok hall
        generalize hP : ErrPost g l d w = P
        have HP := Lib.hid hP
        clear hP hg hsn hdk hr hl hp hb
        obtain ⟨wd, fm, ra⟩ := g
        obtain ⟨ps, ls, own, wt, ap, pe⟩ := d
        simp only [Grd.val, Deck.val] at *
        have hce : ∀ W, Below (w.heap.size + 2) ((w.alloc (.cells #[I wd, I fm, .slice A ra.length c] 29)).alloc (.cells #[.slice Ap ps.length cp, .slice Al ls.length cl, I own, I wt, I ap, I pe] 24)) W →
            (W.cell? ⟨w.heap.size, 0, none⟩ = some (I wd) ∧ W.cell? ⟨w.heap.size, 1, none⟩ = some (I fm) ∧ W.cell? ⟨w.heap.size, 2, none⟩ = some (.slice A ra.length c) ∧ W.cell? ⟨w.heap.size + 1, 0, none⟩ = some (.slice Ap ps.length cp) ∧ W.cell? ⟨w.heap.size + 1, 1, none⟩ = some (.slice Al ls.length cl) ∧ W.cell? ⟨w.heap.size + 1, 2, none⟩ = some (I own) ∧ W.cell? ⟨w.heap.size + 1, 3, none⟩ = some (I wt) ∧ W.cell? ⟨w.heap.size + 1, 4, none⟩ = some (I ap) ∧ W.cell? ⟨w.heap.size + 1, 5, none⟩ = some (I pe)) ∧ Below w.heap.size w W ∧ w.heap.size + 2 ≤ W.heap.size := fun W hB => by
          refine ⟨⟨?_, ?_, ?_, ?_, ?_, ?_, ?_, ?_, ?_⟩, (((Below.refl _ w).alloc (Nat.le_refl _) _).alloc (by simp) _).trans (hB.mono (by omega)), by have := hB.size; simpa using this⟩
          iterate 3 (rw [hB.cell (p := ⟨w.heap.size, _, none⟩) (by simp)]; simp [go_sem])
          iterate 6 (rw [hB.cell (p := ⟨w.heap.size + 1, _, none⟩) (by simp)]; simp [go_sem])
        have HCE := Lib.hid hce
        clear hce
        go_enter Try.func50, Try.ntmps50
        go_wp2_with (first
          | (go_at_call 31; refine (hG _ (by (repeat' (first | assumption | exact Below.refl _ _ | refine Below.drew ?_ | refine below_drewN ?_ _ | refine Below.setCell ?_ (by first | omega | (simp; done) | (simp; omega)) _ | refine Below.alloc ?_ (by first | omega | (simp; done) | (simp; omega)) _ | refine Below.trans ?_ (Below.mono (by assumption) (by first | omega | (simp; done) | (simp; omega))))))).mono ?_; rintro e w1 ⟨b, rfl, hbe', hB⟩; obtain rfl : b = true := hbe'.2 HG.out; clear hbe'; have hw1 : Below (w.heap.size + 2) ((w.alloc (.cells #[I wd, I fm, .slice A ra.length c] 29)).alloc (.cells #[.slice Ap ps.length cp, .slice Al ls.length cl, I own, I wt, I ap, I pe] 24)) w1 := (by simpa using hB); obtain ⟨⟨w1c1, w1c2, w1c3, w1c4, w1c5, w1c6, w1c7, w1c8, w1c9⟩, hqw1, hzw1⟩ := HCE.out w1 hw1; clear hB)
          | (go_at_call 45; refine (hS w1 hqw1).mono ?_; rintro e w2 ⟨b, rfl, hbe', hB⟩; obtain rfl : b = true := hbe'.2 HSN.out; clear hbe'; have hw2 := hw1.trans (hB.mono hzw1); obtain ⟨⟨w2c1, w2c2, w2c3, w2c4, w2c5, w2c6, w2c7, w2c8, w2c9⟩, hqw2, hzw2⟩ := HCE.out w2 hw2; clear hB)
          | (go_at_call 12; refine (hD w2 hqw2).mono ?_; rintro e w3 ⟨b, rfl, hbe', hB⟩; obtain rfl : b = true := hbe'.2 HDK.out; clear hbe'; have hw3 := hw2.trans (hB.mono hzw2); obtain ⟨⟨w3c1, w3c2, w3c3, w3c4, w3c5, w3c6, w3c7, w3c8, w3c9⟩, hqw3, hzw3⟩ := HCE.out w3 hw3; clear hB)
          | (go_at_call 46; refine (hC w3 hqw3).mono ?_; rintro e w4 hpost; obtain ⟨hb3, ⟨n, rfl, hfin⟩ | ⟨gg, cap, rfl, hfin⟩⟩ := HPP.out _ _ _ hqw3 hpost))
        all_goals clear hpost
        all_goals rw [HP.out] at hfin
        · exact hfin
        · exact hfin
      · have HNO : Hid (¬ AllOk g l d) := Lib.hid (fun h => hdk h.2)
        have HG := Lib.hid hg
        have HSN := Lib.hid hsn
        have HDK := Lib.hid hdk
        generalize hP : ErrPost g l d w = P
        have HP := Lib.hid hP
        clear hP hg hsn hdk hr hl hp hb
        obtain ⟨wd, fm, ra⟩ := g
        obtain ⟨ps, ls, own, wt, ap, pe⟩ := d
        simp only [Grd.val, Deck.val] at *
        have hce : ∀ W, Below (w.heap.size + 2) ((w.alloc (.cells #[I wd, I fm, .slice A ra.length c] 29)).alloc (.cells #[.slice Ap ps.length cp, .slice Al ls.length cl, I own, I wt, I ap, I pe] 24)) W →
            (W.cell? ⟨w.heap.size, 0, none⟩ = some (I wd) ∧ W.cell? ⟨w.heap.size, 1, none⟩ = some (I fm) ∧ W.cell? ⟨w.heap.size, 2, none⟩ = some (.slice A ra.length c) ∧ W.cell? ⟨w.heap.size + 1, 0, none⟩ = some (.slice Ap ps.length cp) ∧ W.cell? ⟨w.heap.size + 1, 1, none⟩ = some (.slice Al ls.length cl) ∧ W.cell? ⟨w.heap.size + 1, 2, none⟩ = some (I own) ∧ W.cell? ⟨w.heap.size + 1, 3, none⟩ = some (I wt) ∧ W.cell? ⟨w.heap.size + 1, 4, none⟩ = some (I ap) ∧ W.cell? ⟨w.heap.size + 1, 5, none⟩ = some (I pe)) ∧ Below w.heap.size w W ∧ w.heap.size + 2 ≤ W.heap.size := fun W hB => by
          refine ⟨⟨?_, ?_, ?_, ?_, ?_, ?_, ?_, ?_, ?_⟩, (((Below.refl _ w).alloc (Nat.le_refl _) _).alloc (by simp) _).trans (hB.mono (by omega)), by have := hB.size; simpa using this⟩
          iterate 3 (rw [hB.cell (p := ⟨w.heap.size, _, none⟩) (by simp)]; simp [go_sem])
          iterate 6 (rw [hB.cell (p := ⟨w.heap.size + 1, _, none⟩) (by simp)]; simp [go_sem])
        have HCE := Lib.hid hce
        clear hce
        go_enter Try.func50, Try.ntmps50
        go_wp2_with (first
          | (go_at_call 31; refine (hG _ (by (repeat' (first | assumption | exact Below.refl _ _ | refine Below.drew ?_ | refine below_drewN ?_ _ | refine Below.setCell ?_ (by first | omega | (simp; done) | (simp; omega)) _ | refine Below.alloc ?_ (by first | omega | (simp; done) | (simp; omega)) _ | refine Below.trans ?_ (Below.mono (by assumption) (by first | omega | (simp; done) | (simp; omega))))))).mono ?_; rintro e w1 ⟨b, rfl, hbe', hB⟩; obtain rfl : b = true := hbe'.2 HG.out; clear hbe'; have hw1 : Below (w.heap.size + 2) ((w.alloc (.cells #[I wd, I fm, .slice A ra.length c] 29)).alloc (.cells #[.slice Ap ps.length cp, .slice Al ls.length cl, I own, I wt, I ap, I pe] 24)) w1 := (by simpa using hB); obtain ⟨⟨w1c1, w1c2, w1c3, w1c4, w1c5, w1c6, w1c7, w1c8, w1c9⟩, hqw1, hzw1⟩ := HCE.out w1 hw1; clear hB)
          | (go_at_call 45; refine (hS w1 hqw1).mono ?_; rintro e w2 ⟨b, rfl, hbe', hB⟩; obtain rfl : b = true := hbe'.2 HSN.out; clear hbe'; have hw2 := hw1.trans (hB.mono hzw1); obtain ⟨⟨w2c1, w2c2, w2c3, w2c4, w2c5, w2c6, w2c7, w2c8, w2c9⟩, hqw2, hzw2⟩ := HCE.out w2 hw2; clear hB)
          | (go_at_call 12; refine (hD w2 hqw2).mono ?_; rintro e w3 ⟨b, rfl, hbe', hB⟩; obtain rfl : b = false := (by cases b <;> first | rfl | exact absurd (hbe'.1 rfl) HDK.out); clear hbe'; have hw3 := hw2.trans (hB.mono hzw2); obtain ⟨⟨w3c1, w3c2, w3c3, w3c4, w3c5, w3c6, w3c7, w3c8, w3c9⟩, hqw3, hzw3⟩ := HCE.out w3 hw3; clear hB))
        rw [← HP.out]
        exact ⟨hqw3, .inl ⟨HNO.out, rfl⟩⟩
    · have HNO : Hid (¬ AllOk g l d) := Lib.hid (fun h => hsn h.1.2)
      have HG := Lib.hid hg
      have HSN := Lib.hid hsn
      clear hD
      generalize hP : ErrPost g l d w = P
      have HP := Lib.hid hP
      clear hP hg hsn hr hl hp hb
      obtain ⟨wd, fm, ra⟩ := g
      obtain ⟨ps, ls, own, wt, ap, pe⟩ := d
      simp only [Grd.val, Deck.val] at *
      have hce : ∀ W, Below (w.heap.size + 2) ((w.alloc (.cells #[I wd, I fm, .slice A ra.length c] 29)).alloc (.cells #[.slice Ap ps.length cp, .slice Al ls.length cl, I own, I wt, I ap, I pe] 24)) W →
          (W.cell? ⟨w.heap.size, 0, none⟩ = some (I wd) ∧ W.cell? ⟨w.heap.size, 1, none⟩ = some (I fm) ∧ W.cell? ⟨w.heap.size, 2, none⟩ = some (.slice A ra.length c) ∧ W.cell? ⟨w.heap.size + 1, 0, none⟩ = some (.slice Ap ps.length cp) ∧ W.cell? ⟨w.heap.size + 1, 1, none⟩ = some (.slice Al ls.length cl) ∧ W.cell? ⟨w.heap.size + 1, 2, none⟩ = some (I own) ∧ W.cell? ⟨w.heap.size + 1, 3, none⟩ = some (I wt) ∧ W.cell? ⟨w.heap.size + 1, 4, none⟩ = some (I ap) ∧ W.cell? ⟨w.heap.size + 1, 5, none⟩ = some (I pe)) ∧ Below w.heap.size w W ∧ w.heap.size + 2 ≤ W.heap.size := fun W hB => by
        refine ⟨⟨?_, ?_, ?_, ?_, ?_, ?_, ?_, ?_, ?_⟩, (((Below.refl _ w).alloc (Nat.le_refl _) _).alloc (by simp) _).trans (hB.mono (by omega)), by have := hB.size; simpa using this⟩
        iterate 3 (rw [hB.cell (p := ⟨w.heap.size, _, none⟩) (by simp)]; simp [go_sem])
        iterate 6 (rw [hB.cell (p := ⟨w.heap.size + 1, _, none⟩) (by simp)]; simp [go_sem])
      have HCE := Lib.hid hce
      clear hce
      go_enter Try.func50, Try.ntmps50
      go_wp2_with (first
        | (go_at_call 31; refine (hG _ (by (repeat' (first | assumption | exact Below.refl _ _ | refine Below.drew ?_ | refine below_drewN ?_ _ | refine Below.setCell ?_ (by first | omega | (simp; done) | (simp; omega)) _ | refine Below.alloc ?_ (by first | omega | (simp; done) | (simp; omega)) _ | refine Below.trans ?_ (Below.mono (by assumption) (by first | omega | (simp; done) | (simp; omega))))))).mono ?_; rintro e w1 ⟨b, rfl, hbe', hB⟩; obtain rfl : b = true := hbe'.2 HG.out; clear hbe'; have hw1 : Below (w.heap.size + 2) ((w.alloc (.cells #[I wd, I fm, .slice A ra.length c] 29)).alloc (.cells #[.slice Ap ps.length cp, .slice Al ls.length cl, I own, I wt, I ap, I pe] 24)) w1 := (by simpa using hB); obtain ⟨⟨w1c1, w1c2, w1c3, w1c4, w1c5, w1c6, w1c7, w1c8, w1c9⟩, hqw1, hzw1⟩ := HCE.out w1 hw1; clear hB)
        | (go_at_call 45; refine (hS w1 hqw1).mono ?_; rintro e w2 ⟨b, rfl, hbe', hB⟩; obtain rfl : b = false := (by cases b <;> first | rfl | exact absurd (hbe'.1 rfl) HSN.out); clear hbe'; have hw2 := hw1.trans (hB.mono hzw1); obtain ⟨⟨w2c1, w2c2, w2c3, w2c4, w2c5, w2c6, w2c7, w2c8, w2c9⟩, hqw2, hzw2⟩ := HCE.out w2 hw2; clear hB))
      rw [← HP.out]
      exact ⟨hqw2, .inl ⟨HNO.out, rfl⟩⟩
  · have HNO : Hid (¬ AllOk g l d) := Lib.hid (fun h => hg h.1.1)
    have HG := Lib.hid hg
    generalize hP : ErrPost g l d w = P
    have HP := Lib.hid hP
    clear hP hg hr hl hp hb
    obtain ⟨wd, fm, ra⟩ := g
    obtain ⟨ps, ls, own, wt, ap, pe⟩ := d
    simp only [Grd.val, Deck.val] at *
    have hce : ∀ W, Below (w.heap.size + 2) ((w.alloc (.cells #[I wd, I fm, .slice A ra.length c] 29)).alloc (.cells #[.slice Ap ps.length cp, .slice Al ls.length cl, I own, I wt, I ap, I pe] 24)) W →
        (W.cell? ⟨w.heap.size, 0, none⟩ = some (I wd) ∧ W.cell? ⟨w.heap.size, 1, none⟩ = some (I fm) ∧ W.cell? ⟨w.heap.size, 2, none⟩ = some (.slice A ra.length c) ∧ W.cell? ⟨w.heap.size + 1, 0, none⟩ = some (.slice Ap ps.length cp) ∧ W.cell? ⟨w.heap.size + 1, 1, none⟩ = some (.slice Al ls.length cl) ∧ W.cell? ⟨w.heap.size + 1, 2, none⟩ = some (I own) ∧ W.cell? ⟨w.heap.size + 1, 3, none⟩ = some (I wt) ∧ W.cell? ⟨w.heap.size + 1, 4, none⟩ = some (I ap) ∧ W.cell? ⟨w.heap.size + 1, 5, none⟩ = some (I pe)) ∧ Below w.heap.size w W ∧ w.heap.size + 2 ≤ W.heap.size := fun W hB => by
      refine ⟨⟨?_, ?_, ?_, ?_, ?_, ?_, ?_, ?_, ?_⟩, (((Below.refl _ w).alloc (Nat.le_refl _) _).alloc (by simp) _).trans (hB.mono (by omega)), by have := hB.size; simpa using this⟩
      iterate 3 (rw [hB.cell (p := ⟨w.heap.size, _, none⟩) (by simp)]; simp [go_sem])
      iterate 6 (rw [hB.cell (p := ⟨w.heap.size + 1, _, none⟩) (by simp)]; simp [go_sem])
    have HCE := Lib.hid hce
    clear hce
    go_enter Try.func50, Try.ntmps50
    go_wp2_with (first
      | (go_at_call 31; refine (hG _ (by (repeat' (first | assumption | exact Below.refl _ _ | refine Below.drew ?_ | refine below_drewN ?_ _ | refine Below.setCell ?_ (by first | omega | (simp; done) | (simp; omega)) _ | refine Below.alloc ?_ (by first | omega | (simp; done) | (simp; omega)) _ | refine Below.trans ?_ (Below.mono (by assumption) (by first | omega | (simp; done) | (simp; omega))))))).mono ?_; rintro e w1 ⟨b, rfl, hbe', hB⟩; obtain rfl : b = false := (by cases b <;> first | rfl | exact absurd (hbe'.1 rfl) HG.out); clear hbe'; have hw1 : Below (w.heap.size + 2) ((w.alloc (.cells #[I wd, I fm, .slice A ra.length c] 29)).alloc (.cells #[.slice Ap ps.length cp, .slice Al ls.length cl, I own, I wt, I ap, I pe] 24)) w1 := (by simpa using hB); obtain ⟨⟨w1c1, w1c2, w1c3, w1c4, w1c5, w1c6, w1c7, w1c8, w1c9⟩, hqw1, hzw1⟩ := HCE.out w1 hw1; clear hB))
    rw [← HP.out]
    exact ⟨hqw1, .inl ⟨HNO.out, rfl⟩⟩
end Go.Proofs.Ytilmlgngnbokfaa
