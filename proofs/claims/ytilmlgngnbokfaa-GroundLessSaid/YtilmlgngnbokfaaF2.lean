/- fieldOf; breaks. -/
import Derived.Test.YtilmlgngnbokfaaF
namespace Go.Proofs.Ytilmlgngnbokfaa
set_option linter.unusedVariables false
set_option linter.unusedSimpArgs false
open Go.RowKit

/-- A field in memory. -/
def FieldAt (W : World) (fb : Nat) (firm : Int) (gg cap : Nat) (cr : List (Int × Int)) (Ap Al : Option Addr) (cp cl : Nat) (d : Deck) : Prop :=
  W.cell? ⟨fb, 0, none⟩ = some (I firm) ∧ W.cell? ⟨fb, 1, none⟩ = some (.slice (some ⟨gg, 0, none⟩) cr.length cap) ∧
  W.cell? ⟨fb, 2, none⟩ = some (.slice Ap d.posts.length cp) ∧ W.cell? ⟨fb, 3, none⟩ = some (.slice Al d.lengths.length cl) ∧
  W.cell? ⟨fb, 4, none⟩ = some (I d.own) ∧ W.cell? ⟨fb, 5, none⟩ = some (I d.weight) ∧ W.cell? ⟨fb, 6, none⟩ = some (I d.apart) ∧ W.cell? ⟨fb, 7, none⟩ = some (I d.persons)
def AllOk (g : Grd) (l : List (Int × Int × Int)) (d : Deck) : Prop := GSOk g l ∧ d.ok g.radar.length

def FieldPost (g : Grd) (l : List (Int × Int × Int)) (Ap Al : Option Addr) (cp cl : Nat) (d : Deck) (w : World) (e : Ending) (w' : World) : Prop :=
  Below w.heap.size w w' ∧
  ((¬ AllOk g l d ∧ e = .returned (.tuple #[.pointer none, I 1])) ∨
   (AllOk g l d ∧ 0 ≤ wrongI g.radar l ∧ e = .returned (.tuple #[.pointer none, I 6])) ∨
   (AllOk g l d ∧ wrongI g.radar l < 0 ∧ ∃ fb gg cap, e = .returned (.tuple #[.pointer (some ⟨fb, 0, none⟩), I 0]) ∧
      cap ≤ 9223372036854775807 ∧ g.radar.length ≤ cap ∧ w.heap.size ≤ gg ∧ gg < w'.heap.size ∧ w.heap.size ≤ fb ∧ fb < w'.heap.size ∧ FieldAt w' fb g.firm gg cap (crustL g.radar l) Ap Al cp cl d ∧ Crust2 w' gg (crustL g.radar l)))

set_option maxRecDepth 100000 in
set_option maxHeartbeats 2000000 in
theorem fieldOf_any (A : Option Addr) (c : Nat) (g : Grd) (B : Option Addr) (cb : Nat) (l : List (Int × Int × Int)) (Ap Al : Option Addr) (cp cl : Nat) (d : Deck) (w : World)
   (hr : Pairs w w.heap.size A g.radar) (hl : Threes w w.heap.size B l) (hrl : g.radar.length ≤ 9223372036854775807) (hll : l.length ≤ 9223372036854775807)
   (hp : Ints w w.heap.size Ap d.posts) (hb : Ints w w.heap.size Al d.lengths) (hpl : d.posts.length ≤ 9223372036854775807) (hbl : d.lengths.length ≤ 9223372036854775807) :
    Calls Try.prog 48 #[g.val A c, .slice B l.length cb, d.val Ap Al cp cl] w (FieldPost g l Ap Al cp cl d w) := by
  have hG : ∀ W, Below w.heap.size w W → Calls Try.prog 43 #[g.val A c, .slice B l.length cb] W (RetB (GSOk g l) W) := fun W hB =>
    isGround_any A c g B cb l W ((hr.below hB).more hB.size) ((hl.below hB).more hB.size) hrl hll
  by_cases hok : GSOk g l
  · have hs := hok.snd
    have hC : ∀ W, Below w.heap.size w W → Calls Try.prog 44 #[g.val A c, .slice B l.length cb] W _ := fun W hB =>
      crustOf_any A c g B cb l W ((hr.below hB).more hB.size) ((hl.below hB).more hB.size) hs.1 hs.2.1 hs.2.2
    have hD : ∀ W, Below w.heap.size w W → Calls Try.prog 37 #[d.val Ap Al cp cl, I g.radar.length] W (RetB (d.ok g.radar.length) W) := fun W hB =>
      isDeck_any Ap Al cp cl d _ W ((hp.below hB).more hB.size) ((hb.below hB).more hB.size) hpl hbl (by omega)
    have eW : idxI (fun s => decide (s.2 < s.1)) (crustL g.radar l) = wrongI g.radar l := rfl
    rw [eW] at hC
    have hcl := crustL_length g.radar l
    generalize hP : FieldPost g l Ap Al cp cl d w = P
    have HP := Lib.hid hP
    by_cases hdk : d.ok g.radar.length
    · have HALL : Hid (AllOk g l d) := Lib.hid ⟨hok, hdk⟩
      have HOK := Lib.hid hok
      have HDK := Lib.hid hdk
      have HRB : Hid (1 ≤ g.radar.length) := Lib.hid hs.1.1
      generalize hwr : wrongI g.radar l = wi at *
      have HWR := Lib.hid hwr
      generalize hcr : crustL g.radar l = cr at *
      clear hP hwr hok hdk hs hr hl hp hb eW
      obtain ⟨wd, fm, ra⟩ := g
      obtain ⟨ps, ls, own, wt, ap, pe⟩ := d
      simp only [Grd.val, Deck.val] at *
      by_cases h0 : 0 ≤ wi
      · go_enter Try.func48, Try.ntmps48
        go_wp2_with (first
          | (go_at_call 43; refine (hG _ (by (repeat' (first | assumption | exact Below.refl _ _ | refine Below.drew ?_ | refine below_drewN ?_ _ | refine Below.setCell ?_ (by first | omega | (simp; done) | (simp; omega)) _ | refine Below.alloc ?_ (by first | omega | (simp; done) | (simp; omega)) _ | refine Below.trans ?_ (Below.mono (by assumption) (by first | omega | (simp; done) | (simp; omega))))))).mono ?_; rintro e w1 ⟨b, rfl, hbe', hB⟩; obtain rfl : b = true := hbe'.2 HOK.out; clear hbe'; have hB1 := below_call (w := w) (by (repeat' (first | assumption | exact Below.refl _ _ | refine Below.drew ?_ | refine below_drewN ?_ _ | refine Below.setCell ?_ (by first | omega | (simp; done) | (simp; omega)) _ | refine Below.alloc ?_ (by first | omega | (simp; done) | (simp; omega)) _ | refine Below.trans ?_ (Below.mono (by assumption) (by first | omega | (simp; done) | (simp; omega)))))) hB; obtain ⟨hcc, hff⟩ := bcell hB; have hz1 : w.heap.size + 1 < w1.heap.size := (by have := hB.size; simp at this; omega); have hz0 : w.heap.size < w1.heap.size := (by omega))
          | (go_at_call 37; refine (hD _ (by (repeat' (first | assumption | exact Below.refl _ _ | refine Below.drew ?_ | refine below_drewN ?_ _ | refine Below.setCell ?_ (by first | omega | (simp; done) | (simp; omega)) _ | refine Below.alloc ?_ (by first | omega | (simp; done) | (simp; omega)) _ | refine Below.trans ?_ (Below.mono (by assumption) (by first | omega | (simp; done) | (simp; omega))))))).mono ?_; rintro e w2 ⟨b, rfl, hbe', hBd⟩; obtain rfl : b = true := hbe'.2 HDK.out; clear hbe'; have hB2 := below_call (w := w) (by (repeat' (first | assumption | exact Below.refl _ _ | refine Below.drew ?_ | refine below_drewN ?_ _ | refine Below.setCell ?_ (by first | omega | (simp; done) | (simp; omega)) _ | refine Below.alloc ?_ (by first | omega | (simp; done) | (simp; omega)) _ | refine Below.trans ?_ (Below.mono (by assumption) (by first | omega | (simp; done) | (simp; omega)))))) hBd; obtain ⟨hcc2, hff2⟩ := bcell hBd; have hy1 : w.heap.size + 1 < w2.heap.size := (by have := hBd.size; omega); have hy0 : w.heap.size < w2.heap.size := (by omega))
          | (go_at_call 44; refine (hC _ (by (repeat' (first | assumption | exact Below.refl _ _ | refine Below.drew ?_ | refine below_drewN ?_ _ | refine Below.setCell ?_ (by first | omega | (simp; done) | (simp; omega)) _ | refine Below.alloc ?_ (by first | omega | (simp; done) | (simp; omega)) _ | refine Below.trans ?_ (Below.mono (by assumption) (by first | omega | (simp; done) | (simp; omega))))))).mono ?_; rintro e w3 ⟨gg, cap, rfl, hcap, hcap2, hgg, hgg2, hCr, hBC⟩; have hB3 := below_call (w := w) (by (repeat' (first | assumption | exact Below.refl _ _ | refine Below.drew ?_ | refine below_drewN ?_ _ | refine Below.setCell ?_ (by first | omega | (simp; done) | (simp; omega)) _ | refine Below.alloc ?_ (by first | omega | (simp; done) | (simp; omega)) _ | refine Below.trans ?_ (Below.mono (by assumption) (by first | omega | (simp; done) | (simp; omega)))))) hBC; obtain ⟨hcc3, hff3⟩ := bcell hBC; have hx1 : w.heap.size + 1 < w3.heap.size := (by have := hBC.size; omega); have hx0 : w.heap.size < w3.heap.size := (by omega)))
        try refine bodyPost_ret (v := .tuple #[.pointer none, I 6]) (by simp [results, Try.results48, go_sem]) rfl ?_
        rw [← HP.out]
        exact ⟨hB3, .inr (.inl ⟨HALL.out, by rw [HWR.out]; exact h0, rfl⟩)⟩
      · go_enter Try.func48, Try.ntmps48
        go_wp2_with (first
          | (go_at_call 43; refine (hG _ (by (repeat' (first | assumption | exact Below.refl _ _ | refine Below.drew ?_ | refine below_drewN ?_ _ | refine Below.setCell ?_ (by first | omega | (simp; done) | (simp; omega)) _ | refine Below.alloc ?_ (by first | omega | (simp; done) | (simp; omega)) _ | refine Below.trans ?_ (Below.mono (by assumption) (by first | omega | (simp; done) | (simp; omega))))))).mono ?_; rintro e w1 ⟨b, rfl, hbe', hB⟩; obtain rfl : b = true := hbe'.2 HOK.out; clear hbe'; have hB1 := below_call (w := w) (by (repeat' (first | assumption | exact Below.refl _ _ | refine Below.drew ?_ | refine below_drewN ?_ _ | refine Below.setCell ?_ (by first | omega | (simp; done) | (simp; omega)) _ | refine Below.alloc ?_ (by first | omega | (simp; done) | (simp; omega)) _ | refine Below.trans ?_ (Below.mono (by assumption) (by first | omega | (simp; done) | (simp; omega)))))) hB; obtain ⟨hcc, hff⟩ := bcell hB; have hz1 : w.heap.size + 1 < w1.heap.size := (by have := hB.size; simp at this; omega); have hz0 : w.heap.size < w1.heap.size := (by omega))
          | (go_at_call 37; refine (hD _ (by (repeat' (first | assumption | exact Below.refl _ _ | refine Below.drew ?_ | refine below_drewN ?_ _ | refine Below.setCell ?_ (by first | omega | (simp; done) | (simp; omega)) _ | refine Below.alloc ?_ (by first | omega | (simp; done) | (simp; omega)) _ | refine Below.trans ?_ (Below.mono (by assumption) (by first | omega | (simp; done) | (simp; omega))))))).mono ?_; rintro e w2 ⟨b, rfl, hbe', hBd⟩; obtain rfl : b = true := hbe'.2 HDK.out; clear hbe'; have hB2 := below_call (w := w) (by (repeat' (first | assumption | exact Below.refl _ _ | refine Below.drew ?_ | refine below_drewN ?_ _ | refine Below.setCell ?_ (by first | omega | (simp; done) | (simp; omega)) _ | refine Below.alloc ?_ (by first | omega | (simp; done) | (simp; omega)) _ | refine Below.trans ?_ (Below.mono (by assumption) (by first | omega | (simp; done) | (simp; omega)))))) hBd; obtain ⟨hcc2, hff2⟩ := bcell hBd; have hy1 : w.heap.size + 1 < w2.heap.size := (by have := hBd.size; omega); have hy0 : w.heap.size < w2.heap.size := (by omega))
          | (go_at_call 44; refine (hC _ (by (repeat' (first | assumption | exact Below.refl _ _ | refine Below.drew ?_ | refine below_drewN ?_ _ | refine Below.setCell ?_ (by first | omega | (simp; done) | (simp; omega)) _ | refine Below.alloc ?_ (by first | omega | (simp; done) | (simp; omega)) _ | refine Below.trans ?_ (Below.mono (by assumption) (by first | omega | (simp; done) | (simp; omega))))))).mono ?_; rintro e w3 ⟨gg, cap, rfl, hcap, hcap2, hgg, hgg2, hCr, hBC⟩; have hB3 := below_call (w := w) (by (repeat' (first | assumption | exact Below.refl _ _ | refine Below.drew ?_ | refine below_drewN ?_ _ | refine Below.setCell ?_ (by first | omega | (simp; done) | (simp; omega)) _ | refine Below.alloc ?_ (by first | omega | (simp; done) | (simp; omega)) _ | refine Below.trans ?_ (Below.mono (by assumption) (by first | omega | (simp; done) | (simp; omega)))))) hBC; obtain ⟨hcc3, hff3⟩ := bcell hBC; have hx1 : w.heap.size + 1 < w3.heap.size := (by have := hBC.size; omega); have hx0 : w.heap.size < w3.heap.size := (by omega)))
        try refine bodyPost_ret (v := .tuple #[.pointer (some ⟨w3.heap.size, 0, none⟩), I 0]) (by simp [results, Try.results48, go_sem]) rfl ?_
        rw [← HP.out]
        refine ⟨by (repeat' (first | assumption | exact Below.refl _ _ | refine Below.drew ?_ | refine below_drewN ?_ _ | refine Below.setCell ?_ (by first | omega | (simp; done) | (simp; omega)) _ | refine Below.alloc ?_ (by first | omega | (simp; done) | (simp; omega)) _ | refine Below.trans ?_ (Below.mono (by assumption) (by first | omega | (simp; done) | (simp; omega))))), .inr (.inr ⟨HALL.out, by rw [HWR.out]; omega, w3.heap.size, gg, cap, rfl, hcap, hcap2, by omega, by simp; omega, by omega, by simp, ?_, ?_⟩)⟩
        · simp only [FieldAt, hcr, hcl]
          simp [go_sem]
        · rw [hcr]
          exact hCr.below (B := w3.heap.size) (by (repeat' (first | assumption | exact Below.refl _ _ | refine Below.drew ?_ | refine below_drewN ?_ _ | refine Below.setCell ?_ (by first | omega | (simp; done) | (simp; omega)) _ | refine Below.alloc ?_ (by first | omega | (simp; done) | (simp; omega)) _ | refine Below.trans ?_ (Below.mono (by assumption) (by first | omega | (simp; done) | (simp; omega)))))) hgg2
    · have HNO : Hid (¬ AllOk g l d) := Lib.hid (fun h => hdk h.2)
      have HOK := Lib.hid hok
      have HDK := Lib.hid hdk
      clear hP hok hdk hs hr hl hp hb eW hC hcl
      obtain ⟨wd, fm, ra⟩ := g
      obtain ⟨ps, ls, own, wt, ap, pe⟩ := d
      simp only [Grd.val, Deck.val] at *
      go_enter Try.func48, Try.ntmps48
      go_wp2_with (first
        | (go_at_call 43; refine (hG _ (by (repeat' (first | assumption | exact Below.refl _ _ | refine Below.drew ?_ | refine below_drewN ?_ _ | refine Below.setCell ?_ (by first | omega | (simp; done) | (simp; omega)) _ | refine Below.alloc ?_ (by first | omega | (simp; done) | (simp; omega)) _ | refine Below.trans ?_ (Below.mono (by assumption) (by first | omega | (simp; done) | (simp; omega))))))).mono ?_; rintro e w1 ⟨b, rfl, hbe', hB⟩; obtain rfl : b = true := hbe'.2 HOK.out; clear hbe'; have hB1 := below_call (w := w) (by (repeat' (first | assumption | exact Below.refl _ _ | refine Below.drew ?_ | refine below_drewN ?_ _ | refine Below.setCell ?_ (by first | omega | (simp; done) | (simp; omega)) _ | refine Below.alloc ?_ (by first | omega | (simp; done) | (simp; omega)) _ | refine Below.trans ?_ (Below.mono (by assumption) (by first | omega | (simp; done) | (simp; omega)))))) hB; obtain ⟨hcc, hff⟩ := bcell hB; have hz1 : w.heap.size + 1 < w1.heap.size := (by have := hB.size; simp at this; omega); have hz0 : w.heap.size < w1.heap.size := (by omega))
        | (go_at_call 37; refine (hD _ (by (repeat' (first | assumption | exact Below.refl _ _ | refine Below.drew ?_ | refine below_drewN ?_ _ | refine Below.setCell ?_ (by first | omega | (simp; done) | (simp; omega)) _ | refine Below.alloc ?_ (by first | omega | (simp; done) | (simp; omega)) _ | refine Below.trans ?_ (Below.mono (by assumption) (by first | omega | (simp; done) | (simp; omega))))))).mono ?_; rintro e w2 ⟨b, rfl, hbe', hBd⟩; obtain rfl : b = false := (by cases b <;> first | rfl | exact absurd (hbe'.1 rfl) HDK.out); clear hbe'; have hB2 := below_call (w := w) (by (repeat' (first | assumption | exact Below.refl _ _ | refine Below.drew ?_ | refine below_drewN ?_ _ | refine Below.setCell ?_ (by first | omega | (simp; done) | (simp; omega)) _ | refine Below.alloc ?_ (by first | omega | (simp; done) | (simp; omega)) _ | refine Below.trans ?_ (Below.mono (by assumption) (by first | omega | (simp; done) | (simp; omega)))))) hBd))
      try refine bodyPost_ret (v := .tuple #[.pointer none, I 1]) (by simp [results, Try.results48, go_sem]) rfl ?_
      rw [← HP.out]
      exact ⟨hB2, .inl ⟨HNO.out, rfl⟩⟩
  · generalize hP : FieldPost g l Ap Al cp cl d w = P
    have HP := Lib.hid hP
    have HNO : Hid (¬ AllOk g l d) := Lib.hid (fun h => hok h.1)
    have HOK := Lib.hid hok
    clear hP hok hr hl hp hb
    obtain ⟨wd, fm, ra⟩ := g
    obtain ⟨ps, ls, own, wt, ap, pe⟩ := d
    simp only [Grd.val, Deck.val] at *
    go_enter Try.func48, Try.ntmps48
    go_wp2_with (first
      | (go_at_call 43; refine (hG _ (by (repeat' (first | assumption | exact Below.refl _ _ | refine Below.drew ?_ | refine below_drewN ?_ _ | refine Below.setCell ?_ (by first | omega | (simp; done) | (simp; omega)) _ | refine Below.alloc ?_ (by first | omega | (simp; done) | (simp; omega)) _ | refine Below.trans ?_ (Below.mono (by assumption) (by first | omega | (simp; done) | (simp; omega))))))).mono ?_; rintro e w1 ⟨b, rfl, hbe', hB⟩; obtain rfl : b = false := (by cases b <;> first | rfl | exact absurd (hbe'.1 rfl) HOK.out); clear hbe'; have hB1 := below_call (w := w) (by (repeat' (first | assumption | exact Below.refl _ _ | refine Below.drew ?_ | refine below_drewN ?_ _ | refine Below.setCell ?_ (by first | omega | (simp; done) | (simp; omega)) _ | refine Below.alloc ?_ (by first | omega | (simp; done) | (simp; omega)) _ | refine Below.trans ?_ (Below.mono (by assumption) (by first | omega | (simp; done) | (simp; omega)))))) hB))
    try refine bodyPost_ret (v := .tuple #[.pointer none, I 1]) (by simp [results, Try.results48, go_sem]) rfl ?_
    rw [← HP.out]
    exact ⟨hB1, .inl ⟨HNO.out, rfl⟩⟩
end Go.Proofs.Ytilmlgngnbokfaa
