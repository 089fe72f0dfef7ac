/- isDeck, isGround; the document's Ground, Soundings. -/
import Derived.Test.YtilmlgngnbokfaaV
namespace Go.Proofs.Ytilmlgngnbokfaa
set_option linter.unusedVariables false
set_option linter.unusedSimpArgs false
open Go.RowKit

set_option maxHeartbeats 400000 in
theorem clo59 (n cells : Int) (bx : Nat) (w : World) (hc : w.cell? ⟨bx, 0, none⟩ = some (I cells)) (hb : 0 ≤ cells ∧ cells ≤ 1000000) :
    Calls Try.prog 59 #[I n, .pointer (some ⟨bx, 0, none⟩)] w fun e w' => e = .returned (.bool (!decide (0 ≤ n ∧ n ≤ cells - 1))) ∧ Below w.heap.size w w' := by
  go_enter Try.func59, Try.ntmps59
  go_wp2
  all_goals
    go_ret
    refine ⟨?_, by (repeat' (first | assumption | exact Below.refl _ _ | refine Below.drew ?_ | refine below_drewN ?_ _ | refine Below.setCell ?_ (by first | omega | (simp; done) | (simp; omega)) _ | refine Below.alloc ?_ (by first | omega | (simp; done) | (simp; omega)) _ | refine Below.trans ?_ (Below.mono (by assumption) (by first | omega | (simp; done) | (simp; omega)))))⟩
    simp
    try omega
set_option maxHeartbeats 400000 in
theorem clo60 (n : Int) (w : World) :
    Calls Try.prog 60 #[I n] w fun e w' => e = .returned (.bool (!decide (1 ≤ n ∧ n ≤ 200))) ∧ Below w.heap.size w w' := by
  go_enter Try.func60, Try.ntmps60
  go_wp2
  all_goals
    go_ret
    refine ⟨?_, by (repeat' (first | assumption | exact Below.refl _ _ | refine Below.drew ?_ | refine below_drewN ?_ _ | refine Below.setCell ?_ (by first | omega | (simp; done) | (simp; omega)) _ | refine Below.alloc ?_ (by first | omega | (simp; done) | (simp; omega)) _ | refine Below.trans ?_ (Below.mono (by assumption) (by first | omega | (simp; done) | (simp; omega)))))⟩
    simp
    try omega

theorem below_call {w W w1 : World} (h : Below w.heap.size w W) (hB : Below W.heap.size W w1) : Below w.heap.size w w1 := h.trans (hB.mono h.size)
theorem any_not {α : Type} (p : α → Prop) [DecidablePred p] (xs : List α) : (xs.any fun x => !decide (p x)) = false ↔ ∀ k (h : k < xs.length), p xs[k] := by
  rw [List.any_eq_false]
  constructor
  · intro h k hk
    have := h xs[k] (List.getElem_mem hk)
    simpa using this
  · intro h x hx
    obtain ⟨k, hk, rfl⟩ := List.mem_iff_getElem.1 hx
    simpa using h k hk

set_option maxRecDepth 100000 in
set_option maxHeartbeats 1000000 in
theorem isDeck_any (Ap Al : Option Addr) (cp cl : Nat) (d : Deck) (cells : Int) (w : World)
   (hp : Ints w w.heap.size Ap d.posts) (hl : Ints w w.heap.size Al d.lengths) (hpl : d.posts.length ≤ 9223372036854775807) (hll : d.lengths.length ≤ 9223372036854775807) (hc : 0 ≤ cells ∧ cells ≤ 1000000) :
    Calls Try.prog 37 #[d.val Ap Al cp cl, I cells] w (RetB (d.ok cells) w) := by
  obtain ⟨ps, ls, own, wt, ap, pe⟩ := d
  simp only [Deck.val, Deck.ok] at hpl hll hp hl ⊢
  have hP : ∀ W, Below w.heap.size w W → w.heap.size + 1 < W.heap.size → W.cell? ⟨w.heap.size + 1, 0, none⟩ = some (I cells) → Calls Try.prog 61 #[.slice Ap ps.length cp, .func (.func 59) #[] #[.pointer (some ⟨w.heap.size + 1, 0, none⟩)]] W
      fun e w' => e = .returned (.bool (ps.any fun n => !decide (0 ≤ n ∧ n ≤ cells - 1))) ∧ Below W.heap.size W w' := fun W hB hz hcell =>
    cont61 _ 59 _ (enters_of Try.func59 (by kernel_rfl) rfl) Ap cp ps W ((hp.below hB).more hB.size) hpl (fun i h W' hB' => clo59 _ cells _ W' ((hB'.cell (p := ⟨_, 0, none⟩) hz).trans hcell) hc)
  have hL : ∀ W, Below w.heap.size w W → Calls Try.prog 61 #[.slice Al ls.length cl, .func (.func 60) #[] #[]] W
      fun e w' => e = .returned (.bool (ls.any fun n => !decide (1 ≤ n ∧ n ≤ 200))) ∧ Below W.heap.size W w' := fun W hB =>
    cont61 _ 60 _ (enters_of Try.func60 (by kernel_rfl) rfl) Al cl ls W ((hl.below hB).more hB.size) hll (fun i h W' hB' => clo60 _ W')
  have eP := any_not (fun n => 0 ≤ n ∧ n ≤ cells - 1) ps
  have eL := any_not (fun n => 1 ≤ n ∧ n ≤ 200) ls
  generalize (ps.any fun n => !decide (0 ≤ n ∧ n ≤ cells - 1)) = bP at hP eP
  generalize (ls.any fun n => !decide (1 ≤ n ∧ n ≤ 200)) = bL at hL eL
  have EP := Lib.hid eP
  have EL := Lib.hid eL
  clear eP eL hp hl
  go_enter Try.func37, Try.ntmps37
  go_wp2_with (first
    | (go_at_call 61; refine (hP _ (by (repeat' (first | assumption | exact Below.refl _ _ | refine Below.drew ?_ | refine below_drewN ?_ _ | refine Below.setCell ?_ (by first | omega | (simp; done) | (simp; omega)) _ | refine Below.alloc ?_ (by first | omega | (simp; done) | (simp; omega)) _ | refine Below.trans ?_ (Below.mono (by assumption) (by first | omega | (simp; done) | (simp; omega)))))) (by simp) (by simp [go_sem])).mono ?_; rintro e w1 ⟨rfl, hB⟩; have hB1 := below_call (w := w) (by (repeat' (first | assumption | exact Below.refl _ _ | refine Below.drew ?_ | refine below_drewN ?_ _ | refine Below.setCell ?_ (by first | omega | (simp; done) | (simp; omega)) _ | refine Below.alloc ?_ (by first | omega | (simp; done) | (simp; omega)) _ | refine Below.trans ?_ (Below.mono (by assumption) (by first | omega | (simp; done) | (simp; omega)))))) hB; obtain ⟨hcc, hff⟩ := bcell hB; have hz := hB.size; try simp at hz; have hz1 : w.heap.size < w1.heap.size := by omega)
    | (go_at_call 61; refine (hL _ (by (repeat' (first | assumption | exact Below.refl _ _ | refine Below.drew ?_ | refine below_drewN ?_ _ | refine Below.setCell ?_ (by first | omega | (simp; done) | (simp; omega)) _ | refine Below.alloc ?_ (by first | omega | (simp; done) | (simp; omega)) _ | refine Below.trans ?_ (Below.mono (by assumption) (by first | omega | (simp; done) | (simp; omega))))))).mono ?_; rintro e w1 ⟨rfl, hB⟩; have hB1 := below_call (w := w) (by (repeat' (first | assumption | exact Below.refl _ _ | refine Below.drew ?_ | refine below_drewN ?_ _ | refine Below.setCell ?_ (by first | omega | (simp; done) | (simp; omega)) _ | refine Below.alloc ?_ (by first | omega | (simp; done) | (simp; omega)) _ | refine Below.trans ?_ (Below.mono (by assumption) (by first | omega | (simp; done) | (simp; omega)))))) hB; obtain ⟨hcc, hff⟩ := bcell hB; have hz := hB.size; try simp at hz; have hz1 : w.heap.size < w1.heap.size := by omega)
    | (go_at_call 38; go_in))
  all_goals
    go_ret
    first
    | (refine .no ?_ (by (repeat' (first | assumption | exact Below.refl _ _ | refine Below.drew ?_ | refine below_drewN ?_ _ | refine Below.setCell ?_ (by first | omega | (simp; done) | (simp; omega)) _ | refine Below.alloc ?_ (by first | omega | (simp; done) | (simp; omega)) _ | refine Below.trans ?_ (Below.mono (by assumption) (by first | omega | (simp; done) | (simp; omega)))))); rintro ⟨_, _, _, _, _, _, _, _, _, _⟩; omega)
    | (refine .no ?_ (by (repeat' (first | assumption | exact Below.refl _ _ | refine Below.drew ?_ | refine below_drewN ?_ _ | refine Below.setCell ?_ (by first | omega | (simp; done) | (simp; omega)) _ | refine Below.alloc ?_ (by first | omega | (simp; done) | (simp; omega)) _ | refine Below.trans ?_ (Below.mono (by assumption) (by first | omega | (simp; done) | (simp; omega)))))); rintro ⟨_, _, _, hx, _, _, _, _, _, _⟩; have := EP.out.2 hx; simp_all; done)
    | (refine .no ?_ (by (repeat' (first | assumption | exact Below.refl _ _ | refine Below.drew ?_ | refine below_drewN ?_ _ | refine Below.setCell ?_ (by first | omega | (simp; done) | (simp; omega)) _ | refine Below.alloc ?_ (by first | omega | (simp; done) | (simp; omega)) _ | refine Below.trans ?_ (Below.mono (by assumption) (by first | omega | (simp; done) | (simp; omega)))))); rintro ⟨_, _, _, _, hx, _, _, _, _, _⟩; have := EL.out.2 hx; simp_all; done)
    | (refine .mk ⟨fun h => ?_, ?_⟩ (by (repeat' (first | assumption | exact Below.refl _ _ | refine Below.drew ?_ | refine below_drewN ?_ _ | refine Below.setCell ?_ (by first | omega | (simp; done) | (simp; omega)) _ | refine Below.alloc ?_ (by first | omega | (simp; done) | (simp; omega)) _ | refine Below.trans ?_ (Below.mono (by assumption) (by first | omega | (simp; done) | (simp; omega))))))
       · have hh : pe ≤ 100 := by simpa using h
         exact ⟨by omega, by omega, by omega, EP.out.1 (by cases bP <;> simp_all), EL.out.1 (by cases bL <;> simp_all), by omega, by omega, by omega, by omega⟩
       · rintro ⟨_, _, _, _, _, _, _, _, h⟩; simpa using h.2)

end Go.Proofs.Ytilmlgngnbokfaa
