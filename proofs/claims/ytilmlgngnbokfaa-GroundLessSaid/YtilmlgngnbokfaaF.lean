/- Crust; fieldOf. -/
import Derived.Test.YtilmlgngnbokfaaC
import Derived.Test.YtilmlgngnbokfaaP
namespace Go.Proofs.Ytilmlgngnbokfaa
set_option linter.unusedVariables false
set_option linter.unusedSimpArgs false
open Go.RowKit

/-- The first cell in which soundings are wrong, or -1. -/
def wrongI (ra : List (Int × Int)) (l : List (Int × Int × Int)) : Int := idxI (fun s => decide (s.2 < s.1)) (crustL ra l)
def GSOk (g : Grd) (l : List (Int × Int × Int)) : Prop := g.ok ∧ SndOk g.radar.length l

/-- What Crust hands back. -/
def CrustPost (g : Grd) (l : List (Int × Int × Int)) (w : World) (e : Ending) (w' : World) : Prop :=
  Below w.heap.size w w' ∧
  ((¬ GSOk g l ∧ e = .returned (.tuple #[.slice none 0 0, I 0, I 1])) ∨
   (GSOk g l ∧ 0 ≤ wrongI g.radar l ∧ e = .returned (.tuple #[.slice none 0 0, I (wrongI g.radar l), I 6])) ∨
   (GSOk g l ∧ wrongI g.radar l < 0 ∧ ∃ gg cap, e = .returned (.tuple #[.slice (some ⟨gg, 0, none⟩) g.radar.length cap, I g.radar.length, I 0]) ∧
      cap ≤ 9223372036854775807 ∧ g.radar.length ≤ cap ∧ w.heap.size ≤ gg ∧ gg < w'.heap.size ∧ Crust2 w' gg (crustL g.radar l)))

theorem GSOk.snd {g : Grd} {l : List (Int × Int × Int)} (h : GSOk g l) : (1 ≤ g.radar.length ∧ g.radar.length ≤ 400) ∧ l.length ≤ 64 ∧ ∀ k (h : k < l.length), 0 ≤ l[k].1 ∧ l[k].1 ≤ (g.radar.length : Int) - 1 :=
  ⟨h.1.2.2.1, h.2.1, fun k hk => (h.2.2 k hk).1⟩

set_option maxRecDepth 100000 in
set_option maxHeartbeats 2000000 in
theorem Crust_any (A : Option Addr) (c : Nat) (g : Grd) (B : Option Addr) (cl : Nat) (l : List (Int × Int × Int)) (w : World)
   (hr : Pairs w w.heap.size A g.radar) (hl : Threes w w.heap.size B l) (hrl : g.radar.length ≤ 9223372036854775807) (hll : l.length ≤ 9223372036854775807) :
    Calls Try.prog 21 #[g.val A c, .slice B l.length cl] w (CrustPost g l w) := by
  have hG : ∀ W, Below w.heap.size w W → Calls Try.prog 43 #[g.val A c, .slice B l.length cl] W (RetB (GSOk g l) W) := fun W hB =>
    isGround_any A c g B cl l W ((hr.below hB).more hB.size) ((hl.below hB).more hB.size) hrl hll
  by_cases hok : GSOk g l
  · have hs := hok.snd
    have hC : ∀ W, Below w.heap.size w W → Calls Try.prog 44 #[g.val A c, .slice B l.length cl] W _ := fun W hB =>
      crustOf_any A c g B cl l W ((hr.below hB).more hB.size) ((hl.below hB).more hB.size) hs.1 hs.2.1 hs.2.2
    have HOK := Lib.hid hok
    have eW : idxI (fun s => decide (s.2 < s.1)) (crustL g.radar l) = wrongI g.radar l := rfl
    rw [eW] at hC
    have HPOST : Hid (CrustPost g l w = CrustPost g l w) := Lib.hid rfl
    generalize hP : CrustPost g l w = P
    have HP := Lib.hid hP
    generalize hwr : wrongI g.radar l = wi at *
    have HWR := Lib.hid hwr
    clear hP hwr hok hs hr hl HPOST eW
    obtain ⟨wd, fm, ra⟩ := g
    simp only [Grd.val] at *
    by_cases h0 : 0 ≤ wi
    · go_enter Try.func21, Try.ntmps21
      go_wp2_with (first
        | (go_at_call 43; refine (hG _ (by (repeat' (first | assumption | exact Below.refl _ _ | refine Below.drew ?_ | refine below_drewN ?_ _ | refine Below.setCell ?_ (by first | omega | (simp; done) | (simp; omega)) _ | refine Below.alloc ?_ (by first | omega | (simp; done) | (simp; omega)) _ | refine Below.trans ?_ (Below.mono (by assumption) (by first | omega | (simp; done) | (simp; omega))))))).mono ?_; rintro e w1 ⟨b, rfl, hbe', hB⟩; obtain rfl : b = true := hbe'.2 HOK.out; clear hbe'; have hB1 := below_call (w := w) (by (repeat' (first | assumption | exact Below.refl _ _ | refine Below.drew ?_ | refine below_drewN ?_ _ | refine Below.setCell ?_ (by first | omega | (simp; done) | (simp; omega)) _ | refine Below.alloc ?_ (by first | omega | (simp; done) | (simp; omega)) _ | refine Below.trans ?_ (Below.mono (by assumption) (by first | omega | (simp; done) | (simp; omega)))))) hB; obtain ⟨hcc, hff⟩ := bcell hB; have hz0 : w.heap.size < w1.heap.size := (by have := hB.size; simp at this; omega))
        | (go_at_call 44; refine (hC _ (by (repeat' (first | assumption | exact Below.refl _ _ | refine Below.drew ?_ | refine below_drewN ?_ _ | refine Below.setCell ?_ (by first | omega | (simp; done) | (simp; omega)) _ | refine Below.alloc ?_ (by first | omega | (simp; done) | (simp; omega)) _ | refine Below.trans ?_ (Below.mono (by assumption) (by first | omega | (simp; done) | (simp; omega))))))).mono ?_; rintro e w2 ⟨gg, cap, rfl, hcap, hcap2, hgg, hgg2, hCr, hBC⟩; have hB2 := below_call (w := w) (by (repeat' (first | assumption | exact Below.refl _ _ | refine Below.drew ?_ | refine below_drewN ?_ _ | refine Below.setCell ?_ (by first | omega | (simp; done) | (simp; omega)) _ | refine Below.alloc ?_ (by first | omega | (simp; done) | (simp; omega)) _ | refine Below.trans ?_ (Below.mono (by assumption) (by first | omega | (simp; done) | (simp; omega)))))) hBC))
      refine bodyPost_ret (v := .tuple #[.slice none 0 0, I wi, I 6]) (by simp [results, Try.results21, go_sem]) rfl ?_
      rw [← HP.out]
      exact ⟨hB2, .inr (.inl ⟨HOK.out, by rw [HWR.out]; exact h0, by rw [HWR.out]⟩)⟩
    · go_enter Try.func21, Try.ntmps21
      go_wp2_with (first
        | (go_at_call 43; refine (hG _ (by (repeat' (first | assumption | exact Below.refl _ _ | refine Below.drew ?_ | refine below_drewN ?_ _ | refine Below.setCell ?_ (by first | omega | (simp; done) | (simp; omega)) _ | refine Below.alloc ?_ (by first | omega | (simp; done) | (simp; omega)) _ | refine Below.trans ?_ (Below.mono (by assumption) (by first | omega | (simp; done) | (simp; omega))))))).mono ?_; rintro e w1 ⟨b, rfl, hbe', hB⟩; obtain rfl : b = true := hbe'.2 HOK.out; clear hbe'; have hB1 := below_call (w := w) (by (repeat' (first | assumption | exact Below.refl _ _ | refine Below.drew ?_ | refine below_drewN ?_ _ | refine Below.setCell ?_ (by first | omega | (simp; done) | (simp; omega)) _ | refine Below.alloc ?_ (by first | omega | (simp; done) | (simp; omega)) _ | refine Below.trans ?_ (Below.mono (by assumption) (by first | omega | (simp; done) | (simp; omega)))))) hB; obtain ⟨hcc, hff⟩ := bcell hB; have hz0 : w.heap.size < w1.heap.size := (by have := hB.size; simp at this; omega))
        | (go_at_call 44; refine (hC _ (by (repeat' (first | assumption | exact Below.refl _ _ | refine Below.drew ?_ | refine below_drewN ?_ _ | refine Below.setCell ?_ (by first | omega | (simp; done) | (simp; omega)) _ | refine Below.alloc ?_ (by first | omega | (simp; done) | (simp; omega)) _ | refine Below.trans ?_ (Below.mono (by assumption) (by first | omega | (simp; done) | (simp; omega))))))).mono ?_; rintro e w2 ⟨gg, cap, rfl, hcap, hcap2, hgg, hgg2, hCr, hBC⟩; have hB2 := below_call (w := w) (by (repeat' (first | assumption | exact Below.refl _ _ | refine Below.drew ?_ | refine below_drewN ?_ _ | refine Below.setCell ?_ (by first | omega | (simp; done) | (simp; omega)) _ | refine Below.alloc ?_ (by first | omega | (simp; done) | (simp; omega)) _ | refine Below.trans ?_ (Below.mono (by assumption) (by first | omega | (simp; done) | (simp; omega)))))) hBC))
      refine bodyPost_ret (v := .tuple #[.slice (some ⟨gg, 0, none⟩) ra.length cap, I ra.length, I 0]) (by simp [results, Try.results21, go_sem]) rfl ?_
      rw [← HP.out]
      exact ⟨hB2, .inr (.inr ⟨HOK.out, by rw [HWR.out]; omega, gg, cap, rfl, hcap, hcap2, by have := hB1.size; omega, hgg2, hCr⟩)⟩
  · have HOK := Lib.hid hok
    generalize hP : CrustPost g l w = P
    have HP := Lib.hid hP
    clear hP hok hr hl
    obtain ⟨wd, fm, ra⟩ := g
    simp only [Grd.val] at *
    go_enter Try.func21, Try.ntmps21
    go_wp2_with (first
      | (go_at_call 43; refine (hG _ (by (repeat' (first | assumption | exact Below.refl _ _ | refine Below.drew ?_ | refine below_drewN ?_ _ | refine Below.setCell ?_ (by first | omega | (simp; done) | (simp; omega)) _ | refine Below.alloc ?_ (by first | omega | (simp; done) | (simp; omega)) _ | refine Below.trans ?_ (Below.mono (by assumption) (by first | omega | (simp; done) | (simp; omega))))))).mono ?_; rintro e w1 ⟨b, rfl, hbe', hB⟩; obtain rfl : b = false := (by cases b <;> first | rfl | exact absurd (hbe'.1 rfl) HOK.out); clear hbe'; have hB1 := below_call (w := w) (by (repeat' (first | assumption | exact Below.refl _ _ | refine Below.drew ?_ | refine below_drewN ?_ _ | refine Below.setCell ?_ (by first | omega | (simp; done) | (simp; omega)) _ | refine Below.alloc ?_ (by first | omega | (simp; done) | (simp; omega)) _ | refine Below.trans ?_ (Below.mono (by assumption) (by first | omega | (simp; done) | (simp; omega)))))) hB))
    refine bodyPost_ret (v := .tuple #[.slice none 0 0, I 0, I 1]) (by simp [results, Try.results21, go_sem]) rfl ?_
    rw [← HP.out]
    exact ⟨hB1, .inl ⟨HOK.out, rfl⟩⟩
end Go.Proofs.Ytilmlgngnbokfaa
