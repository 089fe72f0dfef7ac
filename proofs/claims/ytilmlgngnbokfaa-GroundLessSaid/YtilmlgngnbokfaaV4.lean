/- The document's Ground, Soundings. -/
import Derived.Test.YtilmlgngnbokfaaV3
namespace Go.Proofs.Ytilmlgngnbokfaa
set_option linter.unusedVariables false
set_option linter.unusedSimpArgs false
open Go.RowKit

set_option maxHeartbeats 400000 in
theorem span58 (s : Int × Int) (w : World) :
    Calls Try.prog 58 #[.agg #[I s.1, I s.2]] w fun e w' => e = .returned (.bool (decide (thick s))) ∧ Below w.heap.size w w' := by
  obtain ⟨a, b⟩ := s
  go_enter Try.func58, Try.ntmps58
  go_wp2
  all_goals
    go_ret
    refine ⟨ret_bool ?_, by (repeat' (first | assumption | exact Below.refl _ _ | refine Below.drew ?_ | refine below_drewN ?_ _ | refine Below.setCell ?_ (by first | omega | (simp; done) | (simp; omega)) _ | refine Below.alloc ?_ (by first | omega | (simp; done) | (simp; omega)) _ | refine Below.trans ?_ (Below.mono (by assumption) (by first | omega | (simp; done) | (simp; omega)))))⟩
    rw [show (decide (thick (a, b)) = true) ↔ thick (a, b) from decide_eq_true_iff]
    simp [thick]
    try omega

set_option maxRecDepth 100000 in
set_option maxHeartbeats 1000000 in
theorem refGround_any (A : Option Addr) (c : Nat) (g : Grd) (w : World)
   (hr : Pairs w w.heap.size A g.radar) (hrl : g.radar.length ≤ 9223372036854775807) :
    Calls Try.prog 31 #[g.val A c] w (RetB g.ok w) := by
  obtain ⟨wd, fm, ra⟩ := g
  simp only [Grd.val, Grd.ok] at *
  have hS := fun k (h : k < ra.length) W => span58 ra[k] W
  go_enter Try.func31, Try.ntmps31
  go_wp2_with (fail)
  go_loopw [3] (fun s wr => ∃ k : Nat, k ≤ ra.length ∧ k ≤ 401 ∧ s = I k ∧ Below (w.heap.size + 1) (w.alloc (.cells #[I wd, I fm, .slice A ra.length c] 29)) wr ∧ Hid (∀ j (h : j < ra.length), j < k → thick ra[j])) (fun s _ => ra.length - (intOf s).toNat)
  case atStart => exact ⟨0, Nat.zero_le _, Nat.zero_le _, rfl, Below.refl _ _, Lib.hid fun j _ h => by omega⟩
  case round =>
    obtain ⟨k, hk, hk4, rfl, hB, hall⟩ := hrel
    obtain ⟨d1, d2, d3⟩ : wr.cell? ⟨w.heap.size, 0, none⟩ = some (I wd) ∧ wr.cell? ⟨w.heap.size, 1, none⟩ = some (I fm) ∧ wr.cell? ⟨w.heap.size, 2, none⟩ = some (.slice A ra.length c) :=
      ⟨(hB.cell (p := ⟨_, 0, none⟩) (by simp)).trans (by simp [go_sem]), (hB.cell (p := ⟨_, 1, none⟩) (by simp)).trans (by simp [go_sem]), (hB.cell (p := ⟨_, 2, none⟩) (by simp)).trans (by simp [go_sem])⟩
    have hBw : Below w.heap.size w wr := ((Below.refl _ w).alloc (Nat.le_refl _) _).trans (hB.mono (Nat.le_succ _))
    by_cases hlt : k < ra.length
    · by_cases h4 : (k : Int) ≤ 400
      · obtain ⟨b, off, rfl, hb, hcs⟩ := (hr.below hBw) (by omega)
        obtain ⟨hc1, hc2⟩ := hcs k hlt
        have hcall := hS k hlt
        clear hcs hS
        by_cases hq : thick ra[k]
        · rw [decide_eq_true hq] at hcall
          have HQ := Lib.hid hq
          clear hq
          go_wp2_with (go_at_call 58; refine (hcall _).mono ?_; rintro e w' ⟨rfl, hb'⟩)
          go_roundw
          case rel => exact ⟨k + 1, by omega, by omega, by go_num, hB.trans (hb'.mono (by have := hB.size; simp at this; omega)), Lib.hid fun j h hj => by
            rcases Nat.lt_succ_iff_lt_or_eq.1 hj with h1 | rfl
            · exact hall.out j h h1
            · exact HQ.out⟩
          case measure => simp [intOf]; omega
        · rw [decide_eq_false hq] at hcall
          have HQ := Lib.hid hq
          clear hq
          go_wp2_with (go_at_call 58; refine (hcall _).mono ?_; rintro e w' ⟨rfl, hb'⟩)
          go_ret
          exact .no (fun ⟨_, _, _, _, hx⟩ => HQ.out (hx k hlt)) (hBw.trans (hb'.mono hBw.size))
      · go_wp2_with (first | (go_at_call 36; go_in))
        all_goals
          go_ret
          refine .no ?_ (by (repeat' (first | assumption | exact Below.refl _ _ | refine Below.drew ?_ | refine below_drewN ?_ _ | refine Below.setCell ?_ (by first | omega | (simp; done) | (simp; omega)) _ | refine Below.alloc ?_ (by first | omega | (simp; done) | (simp; omega)) _ | refine Below.trans ?_ (Below.mono (by assumption) (by first | omega | (simp; done) | (simp; omega))))))
          rintro ⟨_, _, _, _, _⟩
          omega
    · have hall' : ∀ j (h : j < ra.length), thick ra[j] := fun j h => hall.out j h (by omega)
      have HA := Lib.hid hall'
      clear hall' hall
      go_wp2_with (first | (go_at_call 36; go_in))
      all_goals
        go_ret
        first
        | (refine .no ?_ (by (repeat' (first | assumption | exact Below.refl _ _ | refine Below.drew ?_ | refine below_drewN ?_ _ | refine Below.setCell ?_ (by first | omega | (simp; done) | (simp; omega)) _ | refine Below.alloc ?_ (by first | omega | (simp; done) | (simp; omega)) _ | refine Below.trans ?_ (Below.mono (by assumption) (by first | omega | (simp; done) | (simp; omega)))))); rintro ⟨_, _, _, _, _⟩; omega)
        | (refine .mk ⟨fun h => ?_, ?_⟩ (by (repeat' (first | assumption | exact Below.refl _ _ | refine Below.drew ?_ | refine below_drewN ?_ _ | refine Below.setCell ?_ (by first | omega | (simp; done) | (simp; omega)) _ | refine Below.alloc ?_ (by first | omega | (simp; done) | (simp; omega)) _ | refine Below.trans ?_ (Below.mono (by assumption) (by first | omega | (simp; done) | (simp; omega))))))
           · exact ⟨by omega, by omega, by omega, by simpa using h, HA.out⟩
           · rintro ⟨_, _, _, h, _⟩; simp [h])

set_option maxRecDepth 100000 in
set_option maxHeartbeats 1000000 in
theorem refSnd_any (A : Option Addr) (c : Nat) (l : List (Int × Int × Int)) (cells : Int) (w : World)
   (hr : Threes w w.heap.size A l) (hrl : l.length ≤ 9223372036854775807) (hcl : 0 ≤ cells ∧ cells ≤ 9223372036854775807) :
    Calls Try.prog 45 #[.slice A l.length c, I cells] w (RetB (SndOk cells l) w) := by
  have hS := fun k (h : k < l.length) W => span58 l[k].2 W
  go_enter Try.func45, Try.ntmps45
  go_wp2_with (fail)
  go_loopw [5] (fun s wr => ∃ k : Nat, k ≤ l.length ∧ k ≤ 65 ∧ s = I k ∧ Below w.heap.size w wr ∧ Hid (∀ j (h : j < l.length), j < k → sndP cells l[j])) (fun s _ => l.length - (intOf s).toNat)
  case atStart => exact ⟨0, Nat.zero_le _, Nat.zero_le _, rfl, Below.refl _ _, Lib.hid fun j _ h => by omega⟩
  case round =>
    obtain ⟨k, hk, hk4, rfl, hB, hall⟩ := hrel
    by_cases hlt : k < l.length
    · by_cases h4 : (k : Int) ≤ 64
      · obtain ⟨b, off, rfl, hb, hcs⟩ := (hr.below hB) (by omega)
        obtain ⟨hc1, hc2, hc3⟩ := hcs k hlt
        have hcall := hS k hlt
        clear hcs hS
        generalize hx : l[k] = x at *
        obtain ⟨x1, x2⟩ := x
        simp only at *
        have HX := Lib.hid hx
        clear hx
        by_cases h1 : 0 ≤ x1 ∧ x1 ≤ cells - 1
        · by_cases hq : thick x2
          · rw [decide_eq_true hq] at hcall
            have HQ := Lib.hid hq
            clear hq
            go_wp2_with (first | (go_at_call 58; refine (hcall _).mono ?_; rintro e w' ⟨rfl, hb'⟩) | (go_at_call 36; go_in))
            go_roundw
            case rel => exact ⟨k + 1, by omega, by omega, by go_num, hB.trans (hb'.mono hB.size), Lib.hid fun j h hj => by
              rcases Nat.lt_succ_iff_lt_or_eq.1 hj with h2 | rfl
              · exact hall.out j h h2
              · rw [HX.out]; exact ⟨h1, HQ.out⟩⟩
            case measure => simp [intOf]; omega
          · rw [decide_eq_false hq] at hcall
            have HQ := Lib.hid hq
            clear hq
            go_wp2_with (first | (go_at_call 58; refine (hcall _).mono ?_; rintro e w' ⟨rfl, hb'⟩) | (go_at_call 36; go_in))
            go_ret
            exact .no (fun ⟨_, hx⟩ => HQ.out (by have := (hx k hlt).2; rwa [HX.out] at this)) (hB.trans (hb'.mono hB.size))
        · go_wp2_with (first | (go_at_call 58; refine (hcall _).mono ?_; rintro e w' ⟨rfl, hb'⟩) | (go_at_call 36; go_in))
          all_goals
            go_ret
            exact .no (fun ⟨_, hx⟩ => by have := (hx k hlt).1; rw [HX.out] at this; omega) (by (repeat' (first | assumption | exact Below.refl _ _ | refine Below.drew ?_ | refine below_drewN ?_ _ | refine Below.setCell ?_ (by first | omega | (simp; done) | (simp; omega)) _ | refine Below.alloc ?_ (by first | omega | (simp; done) | (simp; omega)) _ | refine Below.trans ?_ (Below.mono (by assumption) (by first | omega | (simp; done) | (simp; omega))))))
      · go_wp2
        go_ret
        refine .mk ⟨fun h => ?_, ?_⟩ (by (repeat' (first | assumption | exact Below.refl _ _ | refine Below.drew ?_ | refine below_drewN ?_ _ | refine Below.setCell ?_ (by first | omega | (simp; done) | (simp; omega)) _ | refine Below.alloc ?_ (by first | omega | (simp; done) | (simp; omega)) _ | refine Below.trans ?_ (Below.mono (by assumption) (by first | omega | (simp; done) | (simp; omega))))))
        · have : (l.length : Int) ≤ 64 := of_decide_eq_true h
          omega
        · rintro ⟨_, _⟩
          omega
    · have hall' : ∀ j (h : j < l.length), sndP cells l[j] := fun j h => hall.out j h (by omega)
      have HA := Lib.hid hall'
      clear hall' hall
      go_wp2
      go_ret
      refine .mk ⟨fun h => ?_, ?_⟩ (by (repeat' (first | assumption | exact Below.refl _ _ | refine Below.drew ?_ | refine below_drewN ?_ _ | refine Below.setCell ?_ (by first | omega | (simp; done) | (simp; omega)) _ | refine Below.alloc ?_ (by first | omega | (simp; done) | (simp; omega)) _ | refine Below.trans ?_ (Below.mono (by assumption) (by first | omega | (simp; done) | (simp; omega))))))
      · have : (l.length : Int) ≤ 64 := of_decide_eq_true h
        exact ⟨by omega, HA.out⟩
      · rintro ⟨h, _⟩
        exact decide_eq_true (show (l.length : Int) ≤ 64 by omega)
end Go.Proofs.Ytilmlgngnbokfaa
