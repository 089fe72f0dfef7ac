/- areReadings; the walks down and up. -/
import Derived.Test.YtgdilbilhajgaaaDoorE6
namespace Go.Proofs.YtgdilbilhajgaaaDoor
set_option linter.unusedVariables false
set_option linter.unusedSimpArgs false
open Go Go.RowKit

def RdsOk (n : Int) (l : List (Int × Int × Int)) : Prop := l.length ≤ 12 ∧ ∀ k (h : k < l.length), rdP n l[k]
theorem any_not {α : Type} (p : α → Prop) [DecidablePred p] (xs : List α) : (xs.any fun x => !decide (p x)) = false ↔ ∀ k (h : k < xs.length), p xs[k] := by
  rw [List.any_eq_false]
  constructor
  · intro h k hk
    have := h _ (List.getElem_mem hk)
    simpa using this
  · intro h x hx
    obtain ⟨k, hk, rfl⟩ := List.mem_iff_getElem.1 hx
    simpa using h k hk

set_option maxRecDepth 100000 in
set_option maxHeartbeats 1000000 in
theorem areReadings54 (T c n : Nat) (A B : Option Addr) (cb : Nat) (l : List (Int × Int × Int)) (w : World) (hT : T < w.heap.size) (hc : w.cell? ⟨T, 0, none⟩ = some (.slice A n c)) (hn : n ≤ 9223372036854775807)
    (hl : Threes w w.heap.size B l) (hll : l.length ≤ 9223372036854775807) :
    Calls Tryd.prog 54 #[.pointer (some ⟨T, 0, none⟩), .slice B l.length cb] w fun e w' => ∃ b, e = .returned (.bool b) ∧ (b = true ↔ RdsOk n l) ∧ Below w.heap.size w w' := by
  have hL : ∀ W, Below w.heap.size w W → w.heap.size < W.heap.size → W.cell? ⟨w.heap.size, 0, none⟩ = some (.pointer (some ⟨T, 0, none⟩)) → Calls Tryd.prog 74 #[.slice B l.length cb, .func (.func 73) #[] #[.pointer (some ⟨w.heap.size, 0, none⟩)]] W
      fun e w' => e = .returned (.bool (l.any fun s => !decide (rdP n s))) ∧ Below W.heap.size W w' := fun W hB hz hcell =>
    cont74 _ 73 _ (enters_of Tryd.func73 (by kernel_rfl) rfl) B cb l W ((hl.below hB).more hB.size) hll (fun i h W' hB' =>
      clo73 _ n w.heap.size T c A W' hn (by have := hB'.size; omega) ((hB'.cell (p := ⟨_, 0, none⟩) hz).trans hcell) (by have := hB'.size; have := hB.size; omega) ((hB'.cell (p := ⟨T, 0, none⟩) (show T < W.heap.size by have := hB.size; omega)).trans ((hB.cell (p := ⟨_, 0, none⟩) hT).trans hc)))
  have eL := any_not (rdP n) l
  generalize (l.any fun s => !decide (rdP n s)) = bb at hL eL
  have HL := Lib.hid hL
  have HE := Lib.hid eL
  clear hL eL
  cases h12 : decide ((l.length : Int) ≤ 12) with
  | false =>
    have h12' : decide (l.length ≤ 12) = false := by simp at h12 ⊢; omega
    go_enter Tryd.func54, Tryd.ntmps54
    go_wp2_with (first
      | (go_at_call 74; refine (HL.out _ (by (repeat' (first | assumption | exact Below.refl _ _ | refine Below.drew ?_ | refine below_drewN ?_ _ | refine Below.setCell ?_ (by first | omega | (simp; done) | (simp; omega)) _ | refine Below.alloc ?_ (by first | omega | (simp; done) | (simp; omega)) _ | refine Below.trans ?_ (Below.mono (by assumption) (by first | omega | (simp; done) | (simp; omega)))))) (by simp) (by simp [go_sem])).mono ?_; rintro e w1 ⟨rfl, hB1⟩)
      | fail)
    go_ret
    exact ⟨_, rfl, by simp [RdsOk] at *; omega, by (repeat' (first | assumption | exact Below.refl _ _ | refine Below.drew ?_ | refine below_drewN ?_ _ | refine Below.setCell ?_ (by first | omega | (simp; done) | (simp; omega)) _ | refine Below.alloc ?_ (by first | omega | (simp; done) | (simp; omega)) _ | refine Below.trans ?_ (Below.mono (by assumption) (by first | omega | (simp; done) | (simp; omega)))))⟩
  | true =>
    have h12' : decide (l.length ≤ 12) = true := by simp at h12 ⊢; omega
    go_enter Tryd.func54, Tryd.ntmps54
    go_wp2_with (first
      | (go_at_call 74; refine (HL.out _ (by (repeat' (first | assumption | exact Below.refl _ _ | refine Below.drew ?_ | refine below_drewN ?_ _ | refine Below.setCell ?_ (by first | omega | (simp; done) | (simp; omega)) _ | refine Below.alloc ?_ (by first | omega | (simp; done) | (simp; omega)) _ | refine Below.trans ?_ (Below.mono (by assumption) (by first | omega | (simp; done) | (simp; omega)))))) (by simp) (by simp [go_sem])).mono ?_; rintro e w1 ⟨rfl, hB1⟩)
      | fail)
    go_ret
    refine ⟨_, rfl, ?_, below_call (by (repeat' (first | assumption | exact Below.refl _ _ | refine Below.drew ?_ | refine below_drewN ?_ _ | refine Below.setCell ?_ (by first | omega | (simp; done) | (simp; omega)) _ | refine Below.alloc ?_ (by first | omega | (simp; done) | (simp; omega)) _ | refine Below.trans ?_ (Below.mono (by assumption) (by first | omega | (simp; done) | (simp; omega)))))) hB1⟩
    have h1 := HE.out
    have h2 : l.length ≤ 12 := by simpa using h12'
    constructor
    · intro h
      exact ⟨h2, h1.1 (by simpa using h)⟩
    · intro h
      simpa using h1.2 h.2

set_option maxRecDepth 100000 in
set_option maxHeartbeats 1000000 in
theorem down71 (g : Nat) (lb : Array Value) (eg : ∀ args w, (callFunc g args).run Tryd.prog w = .ok (.enter g args) w) (mb c n : Nat) (A : Option Addr) (J : Nat → World → Prop) (w : World) (hn : n ≤ 1000)
    (hmb : ∀ k W, J k W → mb < W.heap.size ∧ W.cell? ⟨mb, 0, none⟩ = some (.slice A n c)) (h0 : J 0 w)
    (hstep : ∀ k, k < n → ∀ W, J k W → Calls Tryd.prog g (#[I ((n : Int) - 1 - (k : Int))] ++ lb) W fun e w' => e = .returned (.tuple #[]) ∧ J (k + 1) w') :
    Calls Tryd.prog 71 #[.func (.func g) #[] lb, .pointer (some ⟨mb, 0, none⟩)] w fun e w' => e = .returned (.tuple #[]) ∧ J n w' := by
  have HM := Lib.hid hmb
  have HS := Lib.hid hstep
  clear hmb hstep
  obtain ⟨hz, hc⟩ := HM.out 0 w h0
  have H0 := Lib.hid h0
  clear h0
  go_enter Tryd.func71, Tryd.ntmps71
  go_wp2
  go_loopw [6] (fun s wr => ∃ k : Nat, k ≤ n ∧ s = I k ∧ Hid (J k wr)) (fun s _ => n - (intOf s).toNat)
  case atStart => exact ⟨0, Nat.zero_le _, rfl, H0⟩
  case round =>
    obtain ⟨k, hk, rfl, HJ⟩ := hrel
    obtain ⟨hz', hc'⟩ := HM.out k wr HJ.out
    by_cases hlt : k < n
    · have hcall := Lib.hid (HS.out k hlt wr HJ.out)
      go_wp2_with (go_at_fn g; refine hcall.out.mono ?_; rintro e w' ⟨rfl, hJ'⟩)
      go_roundw
      case rel => exact ⟨k + 1, by omega, by go_num, Lib.hid hJ'⟩
      case measure => simp [intOf]; omega
    · obtain rfl : n = k := by omega
      go_wp2
      exact bodyPost_end (results_none rfl _ _ _) rfl ⟨rfl, HJ.out⟩
set_option maxRecDepth 100000 in
set_option maxHeartbeats 1000000 in
theorem up72 (g : Nat) (lb : Array Value) (eg : ∀ args w, (callFunc g args).run Tryd.prog w = .ok (.enter g args) w) (mb c n : Nat) (A : Option Addr) (J : Nat → World → Prop) (w : World) (hn : n ≤ 1000)
    (hmb : ∀ k W, J k W → mb < W.heap.size ∧ W.cell? ⟨mb, 0, none⟩ = some (.slice A n c)) (h0 : J 0 w)
    (hstep : ∀ k, k < n → ∀ W, J k W → Calls Tryd.prog g (#[I (k : Int)] ++ lb) W fun e w' => e = .returned (.tuple #[]) ∧ J (k + 1) w') :
    Calls Tryd.prog 72 #[.func (.func g) #[] lb, .pointer (some ⟨mb, 0, none⟩)] w fun e w' => e = .returned (.tuple #[]) ∧ J n w' := by
  have HM := Lib.hid hmb
  have HS := Lib.hid hstep
  clear hmb hstep
  obtain ⟨hz, hc⟩ := HM.out 0 w h0
  have H0 := Lib.hid h0
  clear h0
  go_enter Tryd.func72, Tryd.ntmps72
  go_wp2
  go_loopw [6] (fun s wr => ∃ k : Nat, k ≤ n ∧ s = I k ∧ Hid (J k wr)) (fun s _ => n - (intOf s).toNat)
  case atStart => exact ⟨0, Nat.zero_le _, rfl, H0⟩
  case round =>
    obtain ⟨k, hk, rfl, HJ⟩ := hrel
    by_cases hlt : k < n
    · have hcall := Lib.hid (HS.out k hlt wr HJ.out)
      go_wp2_with (go_at_fn g; refine hcall.out.mono ?_; rintro e w' ⟨rfl, hJ'⟩)
      go_roundw
      case rel => exact ⟨k + 1, by omega, by go_num, Lib.hid hJ'⟩
      case measure => simp [intOf]; omega
    · obtain rfl : n = k := by omega
      go_wp2
      exact bodyPost_end (results_none rfl _ _ _) rfl ⟨rfl, HJ.out⟩
end Go.Proofs.YtgdilbilhajgaaaDoor
