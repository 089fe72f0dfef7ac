/- isGround; the document's Ground, Soundings. -/
import Derived.Test.YtilmlgngnbokfaaV2
namespace Go.Proofs.Ytilmlgngnbokfaa
set_option linter.unusedVariables false
set_option linter.unusedSimpArgs false
open Go.RowKit

theorem ret_bool {a b : Bool} (h : a = true ↔ b = true) : Ending.returned (.bool a) = .returned (.bool b) := by rw [Bool.eq_iff_iff.2 h]
structure Grd where
  wide : Int
  firm : Int
  radar : List (Int × Int)
def thick (s : Int × Int) : Prop := 0 ≤ s.1 ∧ s.1 ≤ s.2 ∧ s.2 ≤ 500
instance (s : Int × Int) : Decidable (thick s) := by unfold thick; infer_instance
def GrdOk (wide firm : Int) (radar : List (Int × Int)) : Prop := (1 ≤ wide ∧ wide ≤ 400) ∧ (1 ≤ firm ∧ firm ≤ 100) ∧ (1 ≤ radar.length ∧ radar.length ≤ 400) ∧ (radar.length : Int) % wide = 0 ∧ ∀ k (h : k < radar.length), thick radar[k]
def Grd.ok (g : Grd) : Prop := GrdOk g.wide g.firm g.radar
def Grd.val (g : Grd) (A : Option Addr) (c : Nat) : Value := .agg #[I g.wide, I g.firm, .slice A g.radar.length c]
def sndP (cells : Int) (s : Int × Int × Int) : Prop := (0 ≤ s.1 ∧ s.1 ≤ cells - 1) ∧ thick s.2
instance (cells : Int) (s : Int × Int × Int) : Decidable (sndP cells s) := by unfold sndP; infer_instance
def SndOk (cells : Int) (l : List (Int × Int × Int)) : Prop := l.length ≤ 64 ∧ ∀ k (h : k < l.length), sndP cells l[k]

set_option maxHeartbeats 400000 in
theorem clo67 (s : Int × Int) (w : World) :
    Calls Try.prog 67 #[spanV s] w fun e w' => e = .returned (.bool (!decide (thick s))) ∧ Below w.heap.size w w' := by
  obtain ⟨a, b⟩ := s
  rw [show spanV (a, b) = .agg #[I a, I b] from rfl]
  go_enter Try.func67, Try.ntmps67
  go_wp2
  all_goals
    go_ret
    refine ⟨ret_bool ?_, by (repeat' (first | assumption | exact Below.refl _ _ | refine Below.drew ?_ | refine below_drewN ?_ _ | refine Below.setCell ?_ (by first | omega | (simp; done) | (simp; omega)) _ | refine Below.alloc ?_ (by first | omega | (simp; done) | (simp; omega)) _ | refine Below.trans ?_ (Below.mono (by assumption) (by first | omega | (simp; done) | (simp; omega)))))⟩
    rw [Bool.not_eq_true' (decide (thick _)), decide_eq_false_iff_not]
    simp [thick]
    try omega
set_option maxHeartbeats 400000 in
theorem clo69 (s : Int × Int × Int) (cells : Int) (bx : Nat) (w : World) (hc : w.cell? ⟨bx, 0, none⟩ = some (I cells)) (hbx : bx < w.heap.size) (hb : 0 ≤ cells ∧ cells ≤ 9223372036854775807) :
    Calls Try.prog 69 #[sndV s, .pointer (some ⟨bx, 0, none⟩)] w fun e w' => e = .returned (.bool (!decide (sndP cells s))) ∧ Below w.heap.size w w' := by
  obtain ⟨c, a, b⟩ := s
  rw [show sndV (c, a, b) = .agg #[I c, I a, I b] from rfl]
  go_enter Try.func69, Try.ntmps69
  go_wp2
  all_goals
    go_ret
    refine ⟨ret_bool ?_, by (repeat' (first | assumption | exact Below.refl _ _ | refine Below.drew ?_ | refine below_drewN ?_ _ | refine Below.setCell ?_ (by first | omega | (simp; done) | (simp; omega)) _ | refine Below.alloc ?_ (by first | omega | (simp; done) | (simp; omega)) _ | refine Below.trans ?_ (Below.mono (by assumption) (by first | omega | (simp; done) | (simp; omega)))))⟩
    rw [Bool.not_eq_true' (decide (sndP _ _)), decide_eq_false_iff_not]
    simp [sndP, thick]
    try omega

set_option maxRecDepth 100000 in
set_option maxHeartbeats 1000000 in
theorem isGround_any (A : Option Addr) (c : Nat) (g : Grd) (B : Option Addr) (cl : Nat) (l : List (Int × Int × Int)) (w : World)
   (hr : Pairs w w.heap.size A g.radar) (hl : Threes w w.heap.size B l) (hrl : g.radar.length ≤ 9223372036854775807) (hll : l.length ≤ 9223372036854775807) :
    Calls Try.prog 43 #[g.val A c, .slice B l.length cl] w (RetB (g.ok ∧ SndOk g.radar.length l) w) := by
  obtain ⟨wd, fm, ra⟩ := g
  simp only [Grd.val, Grd.ok] at *
  have hP : ∀ W, Below w.heap.size w W → Calls Try.prog 70 #[.slice A ra.length c, .func (.func 67) #[] #[]] W
      fun e w' => e = .returned (.bool (ra.any fun s => !decide (thick s))) ∧ Below W.heap.size W w' := fun W hB =>
    cont70 _ 67 _ (enters_of Try.func67 (by kernel_rfl) rfl) A c ra W ((hr.below hB).more hB.size) hrl (fun i h W' hB' => clo67 _ W')
  have hL : ∀ W, Below w.heap.size w W → w.heap.size + 1 < W.heap.size → W.cell? ⟨w.heap.size + 1, 0, none⟩ = some (I ra.length) → Calls Try.prog 71 #[.slice B l.length cl, .func (.func 69) #[] #[.pointer (some ⟨w.heap.size + 1, 0, none⟩)]] W
      fun e w' => e = .returned (.bool (l.any fun s => !decide (sndP ra.length s))) ∧ Below W.heap.size W w' := fun W hB hz hcell =>
    cont71 _ 69 _ (enters_of Try.func69 (by kernel_rfl) rfl) B cl l W ((hl.below hB).more hB.size) hll (fun i h W' hB' => clo69 _ _ _ W' ((hB'.cell (p := ⟨_, 0, none⟩) hz).trans hcell) (by have := hB'.size; omega) (by omega))
  have eP := any_not thick ra
  have eL := any_not (sndP ra.length) l
  generalize (ra.any fun s => !decide (thick s)) = bP at hP eP
  generalize (l.any fun s => !decide (sndP ra.length s)) = bL at hL eL
  have EP := Lib.hid eP
  have EL := Lib.hid eL
  clear eP eL hr hl
  go_enter Try.func43, Try.ntmps43
  go_wp2_with (first
    | (go_at_call 70; refine (hP _ (by (repeat' (first | assumption | exact Below.refl _ _ | refine Below.drew ?_ | refine below_drewN ?_ _ | refine Below.setCell ?_ (by first | omega | (simp; done) | (simp; omega)) _ | refine Below.alloc ?_ (by first | omega | (simp; done) | (simp; omega)) _ | refine Below.trans ?_ (Below.mono (by assumption) (by first | omega | (simp; done) | (simp; omega))))))).mono ?_; rintro e w1 ⟨rfl, hB⟩; have hB1 := below_call (w := w) (by (repeat' (first | assumption | exact Below.refl _ _ | refine Below.drew ?_ | refine below_drewN ?_ _ | refine Below.setCell ?_ (by first | omega | (simp; done) | (simp; omega)) _ | refine Below.alloc ?_ (by first | omega | (simp; done) | (simp; omega)) _ | refine Below.trans ?_ (Below.mono (by assumption) (by first | omega | (simp; done) | (simp; omega)))))) hB; obtain ⟨hcc, hff⟩ := bcell hB; have hz := hB.size; try simp at hz; have hz1 : w.heap.size + 1 < w1.heap.size := by omega)
    | (go_at_call 71; refine (hL _ (by (repeat' (first | assumption | exact Below.refl _ _ | refine Below.drew ?_ | refine below_drewN ?_ _ | refine Below.setCell ?_ (by first | omega | (simp; done) | (simp; omega)) _ | refine Below.alloc ?_ (by first | omega | (simp; done) | (simp; omega)) _ | refine Below.trans ?_ (Below.mono (by assumption) (by first | omega | (simp; done) | (simp; omega)))))) (by simp [*]) (by simp [go_sem, *])).mono ?_; rintro e w1 ⟨rfl, hB⟩; have hB1 := below_call (w := w) (by (repeat' (first | assumption | exact Below.refl _ _ | refine Below.drew ?_ | refine below_drewN ?_ _ | refine Below.setCell ?_ (by first | omega | (simp; done) | (simp; omega)) _ | refine Below.alloc ?_ (by first | omega | (simp; done) | (simp; omega)) _ | refine Below.trans ?_ (Below.mono (by assumption) (by first | omega | (simp; done) | (simp; omega)))))) hB; obtain ⟨hcc, hff⟩ := bcell hB; have hz := hB.size; try simp at hz; have hz1 : w.heap.size + 1 < w1.heap.size := by omega)
    | (go_at_call 38; go_in))
  all_goals
    go_ret
    first
    | (refine .no ?_ (by (repeat' (first | assumption | exact Below.refl _ _ | refine Below.drew ?_ | refine below_drewN ?_ _ | refine Below.setCell ?_ (by first | omega | (simp; done) | (simp; omega)) _ | refine Below.alloc ?_ (by first | omega | (simp; done) | (simp; omega)) _ | refine Below.trans ?_ (Below.mono (by assumption) (by first | omega | (simp; done) | (simp; omega)))))); rintro ⟨⟨_, _, _, _, _⟩, _, _⟩; omega)
    | (refine .no ?_ (by (repeat' (first | assumption | exact Below.refl _ _ | refine Below.drew ?_ | refine below_drewN ?_ _ | refine Below.setCell ?_ (by first | omega | (simp; done) | (simp; omega)) _ | refine Below.alloc ?_ (by first | omega | (simp; done) | (simp; omega)) _ | refine Below.trans ?_ (Below.mono (by assumption) (by first | omega | (simp; done) | (simp; omega)))))); rintro ⟨⟨_, _, _, _, hx⟩, _, _⟩; have := EP.out.2 hx; simp_all; done)
    | (refine .no ?_ (by (repeat' (first | assumption | exact Below.refl _ _ | refine Below.drew ?_ | refine below_drewN ?_ _ | refine Below.setCell ?_ (by first | omega | (simp; done) | (simp; omega)) _ | refine Below.alloc ?_ (by first | omega | (simp; done) | (simp; omega)) _ | refine Below.trans ?_ (Below.mono (by assumption) (by first | omega | (simp; done) | (simp; omega)))))); rintro ⟨_, _, hx⟩; have := EL.out.2 hx; simp_all; done)
    | (refine .no ?_ (by (repeat' (first | assumption | exact Below.refl _ _ | refine Below.drew ?_ | refine below_drewN ?_ _ | refine Below.setCell ?_ (by first | omega | (simp; done) | (simp; omega)) _ | refine Below.alloc ?_ (by first | omega | (simp; done) | (simp; omega)) _ | refine Below.trans ?_ (Below.mono (by assumption) (by first | omega | (simp; done) | (simp; omega)))))); rintro ⟨⟨_, _, _, hx, _⟩, _, _⟩; simp_all; done)
    | (refine .mk ⟨fun h => ?_, ?_⟩ (by (repeat' (first | assumption | exact Below.refl _ _ | refine Below.drew ?_ | refine below_drewN ?_ _ | refine Below.setCell ?_ (by first | omega | (simp; done) | (simp; omega)) _ | refine Below.alloc ?_ (by first | omega | (simp; done) | (simp; omega)) _ | refine Below.trans ?_ (Below.mono (by assumption) (by first | omega | (simp; done) | (simp; omega))))))
       · have hh : bL = false := by cases bL <;> simp_all
         exact ⟨⟨by omega, by omega, by omega, by simp_all, EP.out.1 (by cases bP <;> simp_all)⟩, by omega, EL.out.1 hh⟩
       · rintro ⟨_, _, h⟩; have := EL.out.2 h; simp [this])
end Go.Proofs.Ytilmlgngnbokfaa
