/- The document's Mains. -/
import Derived.Test.YtgdilbilhajgaaaDoorE25
namespace Go.Proofs.YtgdilbilhajgaaaDoor
set_option linter.unusedVariables false
set_option linter.unusedSimpArgs false
open Go Go.RowKit

open Classical in
noncomputable def mOkB (m : List (Int × Int)) : Bool := decide (MOk m)
open Classical in
theorem mOkB_iff {m : List (Int × Int)} : mOkB m = true ↔ MOk m := by unfold mOkB; exact decide_eq_true_iff
theorem MOk.of_all {m : List (Int × Int)} {k : Nat} (h : ∀ j, j < k → mOk1 m j) (hk : m.length ≤ k ∨ 16 < k) (hl : inB m.length 1 16 = true) : MOk m := by
  obtain ⟨h1, h2⟩ := inB_true.1 hl
  exact mOk_of (by omega) (by omega) (fun j hj => h j (by omega))

set_option maxRecDepth 100000 in
set_option maxHeartbeats 4000000 in
theorem mains19 (A : Option Addr) (c : Nat) (m : List (Int × Int)) (w : World) (hm : Pairs w w.heap.size A m) (hml : m.length ≤ 9223372036854775807) :
    Calls Tryd.prog 19 #[.slice A m.length c] w fun e w' => e = .returned (.bool (mOkB m)) ∧ Below w.heap.size w w' := by
  have HM := Lib.hid hm
  have HLN : Hid (∀ k, (∀ j, j < k → mOk1 m j) → (m.length ≤ k ∨ 16 < k) → inB m.length 1 16 = mOkB m) := Lib.hid fun k h1 h2 => by
    rw [Bool.eq_iff_iff, mOkB_iff]
    exact ⟨fun h => MOk.of_all h1 h2 h, fun h => inB_true.2 ⟨by have := h.pos; omega, by have := h.le; omega⟩⟩
  have HNO : Hid (∀ k, k < m.length → ¬ mOk1 m k → mOkB m = false) := Lib.hid fun k hk h => by
    rw [← Bool.not_eq_true, mOkB_iff]
    exact fun h' => h (h'.one k hk)
  generalize mOkB m = mb at *
  clear hm
  go_enter Tryd.func19, Tryd.ntmps19
  go_wp2
  go_loopw [3] (fun s wr => ∃ k : Nat, k ≤ m.length ∧ k ≤ 17 ∧ s = I k ∧ Below w.heap.size w wr ∧ Hid (∀ j, j < k → mOk1 m j)) (fun s _ => 17 - (intOf s).toNat)
  case atStart => exact ⟨0, by omega, by omega, rfl, Below.refl _ _, Lib.hid fun j h => by omega⟩
  case round =>
    obtain ⟨k, hk, hk17, rfl, hB, HA⟩ := hrel
    by_cases hlt : k < m.length ∧ k ≤ 16
    · obtain ⟨hlt, h16⟩ := hlt
      obtain ⟨b, o, rfl, hbz, hcs⟩ := (HM.out.below hB) (by omega)
      obtain ⟨x0, x1⟩ := hcs k hlt
      have e1 : m[k].1 = parW m k := by simp [parW, List.getD, hlt]
      have e2 : m[k].2 = limW m k := by simp [limW, List.getD, hlt]
      rw [e1] at x0
      rw [e2] at x1
      have HK : Hid (mOk1 m k ↔ ((k = 0 → parW m k = -1) ∧ (0 < k → 0 ≤ parW m k ∧ parW m k ≤ (k : Int) - 1) ∧ (0 ≤ limW m k ∧ limW m k ≤ 1600))) := Lib.hid Iff.rfl
      have HNk := Lib.hid (HNO.out k hlt)
      generalize parW m k = p at *
      generalize limW m k = q at *
      have hb1 : ((k : Int) < (m.length : Int)) := by omega
      have HSTEP : Hid (mOk1 m k → ∀ j, j < k + 1 → mOk1 m j) := Lib.hid fun h j hj => by
        rcases Nat.lt_succ_iff_lt_or_eq.1 hj with h1 | rfl
        · exact HA.out j h1
        · exact h
      clear hcs
      have HH1 : Hid (∀ b, inB p 0 ((k : Int) - 1) = b → (b = true ↔ 0 ≤ p ∧ p ≤ (k : Int) - 1)) := Lib.hid fun b e => by rw [← e]; exact inB_true
      have HH2 : Hid (∀ b, inB q 0 1600 = b → (b = true ↔ 0 ≤ q ∧ q ≤ 1600)) := Lib.hid fun b e => by rw [← e]; exact inB_true
      rcases Nat.eq_zero_or_pos k with hk0 | hk0
      · subst hk0
        simp only [Nat.zero_mul, Nat.add_zero, Nat.zero_add] at x0 x1
        by_cases hp : p = -1
        · subst hp
          cases h2 : inB q 0 1600 with
          | false =>
            have H2 := Lib.hid (HH2.out _ h2)
            go_wp2_with (first | (go_at_call 42; refine (in42 _ _ _ _).mono ?_; rintro e w1 ⟨rfl, rfl⟩) | fail)
            go_ret
            exact ⟨ret_b (HNk.out (fun h => by have := H2.out.2 (HK.out.1 h).2.2; cases this)).symm, by first | exact hB | exact below_drewN hB _ | (repeat' (first | assumption | exact Below.refl _ _ | refine Below.drew ?_ | refine below_drewN ?_ _ | refine Below.setCell ?_ (by first | omega | (simp; done) | (simp; omega)) _ | refine Below.alloc ?_ (by first | omega | (simp; done) | (simp; omega)) _ | refine Below.trans ?_ (Below.mono (by assumption) (by first | omega | (simp; done) | (simp; omega)))))⟩
          | true =>
            have H2 := Lib.hid (HH2.out _ h2)
            go_wp2_with (first | (go_at_call 42; refine (in42 _ _ _ _).mono ?_; rintro e w1 ⟨rfl, rfl⟩) | fail)
            go_roundw
            case rel => exact ⟨0 + 1, by omega, by omega, by go_num, (by first | exact hB | exact below_drewN hB _ | (repeat' (first | assumption | exact Below.refl _ _ | refine Below.drew ?_ | refine below_drewN ?_ _ | refine Below.setCell ?_ (by first | omega | (simp; done) | (simp; omega)) _ | refine Below.alloc ?_ (by first | omega | (simp; done) | (simp; omega)) _ | refine Below.trans ?_ (Below.mono (by assumption) (by first | omega | (simp; done) | (simp; omega)))))), Lib.hid (HSTEP.out (HK.out.2 ⟨fun _ => by first | rfl | trivial, fun h => absurd h (by omega), H2.out.1 (by trivial)⟩))⟩
            case measure => first | (simp [intOf]; done) | (simp [intOf]; omega)
        · have hpb : (p != -1) = true := by simpa using hp
          have HP := Lib.hid hp
          clear hp
          go_wp2_with (first | (go_at_call 42; refine (in42 _ _ _ _).mono ?_; rintro e w1 ⟨rfl, rfl⟩) | fail)
          go_ret
          exact ⟨ret_b (HNk.out (fun h => by exact HP.out ((HK.out.1 h).1 (by first | rfl | trivial)))).symm, by first | exact hB | exact below_drewN hB _ | (repeat' (first | assumption | exact Below.refl _ _ | refine Below.drew ?_ | refine below_drewN ?_ _ | refine Below.setCell ?_ (by first | omega | (simp; done) | (simp; omega)) _ | refine Below.alloc ?_ (by first | omega | (simp; done) | (simp; omega)) _ | refine Below.trans ?_ (Below.mono (by assumption) (by first | omega | (simp; done) | (simp; omega)))))⟩
      · have hk1 : ((k : Int) == 0) = false := by simp; omega
        have hk2 : (k == 0) = false := by simp; omega
        have hk3 : decide ((0 : Int) < (k : Int)) = true := by simp; omega
        have hk4 : decide (0 < k) = true := by simp; omega
        cases h1 : inB p 0 ((k : Int) - 1) with
        | false =>
          have H1 := Lib.hid (HH1.out _ h1)
          go_wp2_with (first | (go_at_call 42; refine (in42 _ _ _ _).mono ?_; rintro e w1 ⟨rfl, rfl⟩) | fail)
          go_ret
          exact ⟨ret_b (HNk.out (fun h => by have := H1.out.2 ((HK.out.1 h).2.1 hk0); cases this)).symm, by first | exact hB | exact below_drewN hB _ | (repeat' (first | assumption | exact Below.refl _ _ | refine Below.drew ?_ | refine below_drewN ?_ _ | refine Below.setCell ?_ (by first | omega | (simp; done) | (simp; omega)) _ | refine Below.alloc ?_ (by first | omega | (simp; done) | (simp; omega)) _ | refine Below.trans ?_ (Below.mono (by assumption) (by first | omega | (simp; done) | (simp; omega)))))⟩
        | true =>
          have H1 := Lib.hid (HH1.out _ h1)
          cases h2 : inB q 0 1600 with
          | false =>
            have H2 := Lib.hid (HH2.out _ h2)
            go_wp2_with (first | (go_at_call 42; refine (in42 _ _ _ _).mono ?_; rintro e w1 ⟨rfl, rfl⟩) | fail)
            go_ret
            exact ⟨ret_b (HNk.out (fun h => by have := H2.out.2 (HK.out.1 h).2.2; cases this)).symm, by first | exact hB | exact below_drewN hB _ | (repeat' (first | assumption | exact Below.refl _ _ | refine Below.drew ?_ | refine below_drewN ?_ _ | refine Below.setCell ?_ (by first | omega | (simp; done) | (simp; omega)) _ | refine Below.alloc ?_ (by first | omega | (simp; done) | (simp; omega)) _ | refine Below.trans ?_ (Below.mono (by assumption) (by first | omega | (simp; done) | (simp; omega)))))⟩
          | true =>
            have H2 := Lib.hid (HH2.out _ h2)
            go_wp2_with (first | (go_at_call 42; refine (in42 _ _ _ _).mono ?_; rintro e w1 ⟨rfl, rfl⟩) | fail)
            go_roundw
            case rel => exact ⟨k + 1, by omega, by omega, by go_num, (by first | exact hB | exact below_drewN hB _ | (repeat' (first | assumption | exact Below.refl _ _ | refine Below.drew ?_ | refine below_drewN ?_ _ | refine Below.setCell ?_ (by first | omega | (simp; done) | (simp; omega)) _ | refine Below.alloc ?_ (by first | omega | (simp; done) | (simp; omega)) _ | refine Below.trans ?_ (Below.mono (by assumption) (by first | omega | (simp; done) | (simp; omega)))))), Lib.hid (HSTEP.out (HK.out.2 ⟨fun h => absurd h (by omega), fun _ => H1.out.1 (by trivial), H2.out.1 (by trivial)⟩))⟩
            case measure => first | (simp [intOf]; done) | (simp [intOf]; omega)
    · have HL1 := Lib.hid (HLN.out k HA.out (by omega))
      have HLT := Lib.hid hlt
      by_cases hl : k < m.length
      · have h16 : ¬ k ≤ 16 := fun h => hlt ⟨hl, h⟩
        have hd : decide ((k : Int) ≤ 16) = false := by simp; omega
        have hd2 : decide (k ≤ 16) = false := by simp; omega
        have hd3 : decide ((k : Int) < (m.length : Int)) = true := by simp; omega
        clear hlt
        go_wp2_with (first | (go_at_call 42; refine (in42 _ _ _ _).mono ?_; rintro e w1 ⟨rfl, rfl⟩) | fail)
        go_ret
        exact ⟨ret_b HL1.out, by first | exact hB | exact below_drewN hB _ | (repeat' (first | assumption | exact Below.refl _ _ | refine Below.drew ?_ | refine below_drewN ?_ _ | refine Below.setCell ?_ (by first | omega | (simp; done) | (simp; omega)) _ | refine Below.alloc ?_ (by first | omega | (simp; done) | (simp; omega)) _ | refine Below.trans ?_ (Below.mono (by assumption) (by first | omega | (simp; done) | (simp; omega)))))⟩
      · have hd3 : decide ((k : Int) < (m.length : Int)) = false := by simp; omega
        clear hlt
        go_wp2_with (first | (go_at_call 42; refine (in42 _ _ _ _).mono ?_; rintro e w1 ⟨rfl, rfl⟩) | fail)
        go_ret
        exact ⟨ret_b HL1.out, by first | exact hB | exact below_drewN hB _ | (repeat' (first | assumption | exact Below.refl _ _ | refine Below.drew ?_ | refine below_drewN ?_ _ | refine Below.setCell ?_ (by first | omega | (simp; done) | (simp; omega)) _ | refine Below.alloc ?_ (by first | omega | (simp; done) | (simp; omega)) _ | refine Below.trans ?_ (Below.mono (by assumption) (by first | omega | (simp; done) | (simp; omega)))))⟩
end Go.Proofs.YtgdilbilhajgaaaDoor
/- The document's Readings. -/
namespace Go.Proofs.YtgdilbilhajgaaaDoor
set_option linter.unusedVariables false
set_option linter.unusedSimpArgs false
open Go Go.RowKit

open Classical in
noncomputable def rdsB (n : Int) (l : List (Int × Int × Int)) : Bool := decide (RdsOk n l)
open Classical in
theorem rdsB_iff {n : Int} {l : List (Int × Int × Int)} : rdsB n l = true ↔ RdsOk n l := by unfold rdsB; exact decide_eq_true_iff

set_option maxRecDepth 100000 in
set_option maxHeartbeats 4000000 in
theorem readings65 (B : Option Addr) (cb n : Nat) (l : List (Int × Int × Int)) (w : World) (hl : Threes w w.heap.size B l) (hll : l.length ≤ 9223372036854775807) (hn : n ≤ 1000) :
    Calls Tryd.prog 65 #[.slice B l.length cb, I n] w fun e w' => e = .returned (.bool (rdsB n l)) ∧ Below w.heap.size w w' := by
  have HM := Lib.hid hl
  have HLN : Hid (∀ k, (∀ j (h : j < l.length), j < k → rdP n l[j]) → (l.length ≤ k ∨ 12 < k ∧ k ≤ l.length) → decide ((l.length : Int) ≤ 12) = rdsB n l) := Lib.hid fun k h1 h2 => by
    rw [Bool.eq_iff_iff, rdsB_iff, decide_eq_true_iff]
    exact ⟨fun h => ⟨by omega, fun j hj => h1 j hj (by omega)⟩, fun h => by have := h.1; omega⟩
  have HNO : Hid (∀ k (h : k < l.length), ¬ rdP n l[k] → rdsB n l = false) := Lib.hid fun k hk h => by
    rw [← Bool.not_eq_true, rdsB_iff]
    exact fun h' => h (h'.2 k hk)
  generalize rdsB n l = mb at *
  clear hl
  go_enter Tryd.func65, Tryd.ntmps65
  go_wp2
  go_loopw [5] (fun s wr => ∃ k : Nat, k ≤ l.length ∧ k ≤ 13 ∧ s = I k ∧ Below w.heap.size w wr ∧ Hid (∀ j (h : j < l.length), j < k → rdP n l[j])) (fun s _ => 13 - (intOf s).toNat)
  case atStart => exact ⟨0, by omega, by omega, rfl, Below.refl _ _, Lib.hid fun j _ h => by omega⟩
  case round =>
    obtain ⟨k, hk, hk17, rfl, hB, HA⟩ := hrel
    by_cases hlt : k < l.length ∧ k ≤ 12
    · obtain ⟨hlt, h16⟩ := hlt
      obtain ⟨b, o, rfl, hbz, hcs⟩ := (HM.out.below hB) (by omega)
      obtain ⟨x0, x1, x2⟩ := hcs k hlt
      have hwz := hB.size
      have hbw : b < wr.heap.size := by omega
      have HK : Hid (rdP n l[k] ↔ ((0 ≤ l[k].1 ∧ l[k].1 ≤ (n : Int) - 1) ∧ 0 ≤ l[k].2.1 ∧ l[k].2.1 ≤ l[k].2.2 ∧ l[k].2.2 ≤ 1600)) := Lib.hid Iff.rfl
      have HNk := Lib.hid (HNO.out k hlt)
      have HSTEP : Hid (rdP n l[k] → ∀ j (h : j < l.length), j < k + 1 → rdP n l[j]) := Lib.hid fun h j hj hjk => by
        rcases Nat.lt_succ_iff_lt_or_eq.1 hjk with h1 | rfl
        · exact HA.out j hj h1
        · exact h
      generalize rdP n l[k] = Pk at *
      generalize l[k] = r at *
      obtain ⟨a, lo, hi⟩ := r
      simp only at HK x0 x1 x2
      have hb1 : ((k : Int) < (l.length : Int)) := by omega
      have hsub : wrap64 ((n : Int) - 1) = (n : Int) - 1 := wrap64_small (by omega)
      clear hcs
      have HH1 : Hid (∀ b, inB a 0 ((n : Int) - 1) = b → (b = true ↔ 0 ≤ a ∧ a ≤ (n : Int) - 1)) := Lib.hid fun b e => by rw [← e]; exact inB_true
      have hBz : Below w.heap.size w (wr.alloc (.cells #[I lo, I hi] 39)) := hB.alloc hwz _
      cases h1 : inB a 0 ((n : Int) - 1) with
      | false =>
        have H1 := Lib.hid (HH1.out _ h1)
        go_wp2_with (first | (go_at_call 42; refine (in42 _ _ _ _).mono ?_; rintro e w1 ⟨rfl, rfl⟩) | fail)
        go_ret
        exact ⟨ret_b (HNk.out (fun h => by have := H1.out.2 (HK.out.1 h).1; cases this)).symm, by first | exact hBz | exact below_drewN hBz _⟩
      | true =>
        have H1 := Lib.hid (HH1.out _ h1)
        by_cases p1 : lo < 0
        · have d1 : decide (lo < 0) = true := by simpa using p1
          have P1 := Lib.hid p1
          clear p1
          go_wp2_with (first | (go_at_call 42; refine (in42 _ _ _ _).mono ?_; rintro e w1 ⟨rfl, rfl⟩) | fail)
          go_ret
          exact ⟨ret_b (HNk.out (fun h => by have := (HK.out.1 h).2.1; have := P1.out; omega)).symm, by first | exact hBz | exact below_drewN hBz _⟩
        · have d1 : decide (lo < 0) = false := by simpa using p1
          have P1 := Lib.hid p1
          clear p1
          by_cases p2 : hi < lo
          · have d2 : decide (hi < lo) = true := by simpa using p2
            have P2 := Lib.hid p2
            clear p2
            go_wp2_with (first | (go_at_call 42; refine (in42 _ _ _ _).mono ?_; rintro e w1 ⟨rfl, rfl⟩) | fail)
            go_ret
            exact ⟨ret_b (HNk.out (fun h => by have := (HK.out.1 h).2.2.1; have := P2.out; omega)).symm, by first | exact hBz | exact below_drewN hBz _⟩
          · have d2 : decide (hi < lo) = false := by simpa using p2
            have P2 := Lib.hid p2
            clear p2
            by_cases p3 : 1600 < hi
            · have d3 : decide (1600 < hi) = true := by simpa using p3
              have P3 := Lib.hid p3
              clear p3
              go_wp2_with (first | (go_at_call 42; refine (in42 _ _ _ _).mono ?_; rintro e w1 ⟨rfl, rfl⟩) | fail)
              go_ret
              exact ⟨ret_b (HNk.out (fun h => by have := (HK.out.1 h).2.2.2; have := P3.out; omega)).symm, by first | exact hBz | exact below_drewN hBz _⟩
            · have d3 : decide (1600 < hi) = false := by simpa using p3
              have P3 := Lib.hid p3
              clear p3
              go_wp2_with (first | (go_at_call 42; refine (in42 _ _ _ _).mono ?_; rintro e w1 ⟨rfl, rfl⟩) | fail)
              go_roundw
              case rel => exact ⟨k + 1, by omega, by omega, by go_num, (by first | exact hBz | exact below_drewN hBz _), Lib.hid (HSTEP.out (HK.out.2 ⟨H1.out.1 (by trivial), by have := P1.out; omega, by have := P2.out; omega, by have := P3.out; omega⟩))⟩
              case measure => first | (simp [intOf]; done) | (simp [intOf]; omega)
    · have HL1 := Lib.hid (HLN.out k HA.out (by omega))
      by_cases hl : k < l.length
      · have hd : decide ((k : Int) ≤ 12) = false := by simp; omega
        have hd2 : decide (k ≤ 12) = false := by simp; omega
        have hd3 : decide ((k : Int) < (l.length : Int)) = true := by simp; omega
        clear hlt
        go_wp2
        go_ret
        exact ⟨ret_b HL1.out, by first | exact hB | exact below_drewN hB _⟩
      · have hd3 : decide ((k : Int) < (l.length : Int)) = false := by simp; omega
        clear hlt
        go_wp2
        go_ret
        exact ⟨ret_b HL1.out, by first | exact hB | exact below_drewN hB _⟩
end Go.Proofs.YtgdilbilhajgaaaDoor
/- The document's Well; what a main is told. -/
namespace Go.Proofs.YtgdilbilhajgaaaDoor
set_option linter.unusedVariables false
set_option linter.unusedSimpArgs false
open Go Go.RowKit

theorem well_iff {m : List (Int × Int)} {i : Nat} : kids m i = [] ↔ ∀ j, j < m.length → parW m j ≠ (i : Int) := by
  constructor
  · intro h j hj e
    have : j ∈ kids m i := mem_kids.2 ⟨hj, e⟩
    rw [h] at this
    cases this
  · intro h
    cases hk : kids m i with
    | nil => rfl
    | cons a r =>
      have : a ∈ kids m i := by rw [hk]; simp
      obtain ⟨h1, h2⟩ := mem_kids.1 this
      exact absurd h2 (h a h1)
set_option maxRecDepth 100000 in
set_option maxHeartbeats 1000000 in
theorem well29 (A : Option Addr) (c i : Nat) (m : List (Int × Int)) (w : World) (hm : Pairs w w.heap.size A m) (hml : m.length ≤ 9223372036854775807) :
    Calls Tryd.prog 29 #[.slice A m.length c, I i] w fun e w' => e = .returned (.bool (decide (kids m i = []))) ∧ Below w.heap.size w w' := by
  have HM := Lib.hid hm
  have HY : Hid ((∀ j, j < m.length → parW m j ≠ (i : Int)) → decide (kids m i = []) = true) := Lib.hid fun h => decide_eq_true (well_iff.2 h)
  have HN : Hid (∀ j, j < m.length → parW m j = (i : Int) → decide (kids m i = []) = false) := Lib.hid fun j hj e => decide_eq_false fun h => well_iff.1 h j hj e
  generalize decide (kids m i = []) = mb at *
  clear hm
  go_enter Tryd.func29, Tryd.ntmps29
  go_wp2
  go_loopw [5] (fun s wr => ∃ k : Nat, k ≤ m.length ∧ s = I k ∧ Below w.heap.size w wr ∧ Hid (∀ j, j < k → parW m j ≠ (i : Int))) (fun s _ => m.length - (intOf s).toNat)
  case atStart => exact ⟨0, by omega, rfl, Below.refl _ _, Lib.hid fun j h => by omega⟩
  case round =>
    obtain ⟨k, hk, rfl, hB, HA⟩ := hrel
    by_cases hlt : k < m.length
    · obtain ⟨b, o, rfl, hbz, hcs⟩ := (HM.out.below hB) (by omega)
      obtain ⟨x0, _⟩ := hcs k hlt
      have e1 : m[k].1 = parW m k := by simp [parW, List.getD, hlt]
      rw [e1] at x0
      have HNk := Lib.hid (HN.out k hlt)
      have HST : Hid (parW m k ≠ (i : Int) → ∀ j, j < k + 1 → parW m j ≠ (i : Int)) := Lib.hid fun h j hj => by
        rcases Nat.lt_succ_iff_lt_or_eq.1 hj with h1 | rfl
        · exact HA.out j h1
        · exact h
      generalize parW m k = p at *
      clear hcs
      by_cases hp : p = (i : Int)
      · have hpb : (p == (i : Int)) = true := by simpa using hp
        have HP := Lib.hid hp
        clear hp
        go_wp2
        go_ret
        exact ⟨ret_b (HNk.out HP.out).symm, by first | exact hB | exact below_drewN hB _⟩
      · have hpb : (p == (i : Int)) = false := by simpa using hp
        have HP := Lib.hid hp
        clear hp
        go_wp2
        go_roundw
        case rel => exact ⟨k + 1, by omega, by go_num, (by first | exact hB | exact below_drewN hB _), Lib.hid (HST.out HP.out)⟩
        case measure => first | (simp [intOf]; done) | (simp [intOf]; omega)
    · have HY1 := Lib.hid (HY.out (fun j hj => HA.out j (by omega)))
      go_wp2
      go_ret
      exact ⟨ret_b HY1.out.symm, by first | exact hB | exact below_drewN hB _⟩
end Go.Proofs.YtgdilbilhajgaaaDoor
/- The document's told. -/
namespace Go.Proofs.YtgdilbilhajgaaaDoor
set_option linter.unusedVariables false
set_option linter.unusedSimpArgs false
open Go Go.RowKit

set_option maxRecDepth 100000 in
set_option maxHeartbeats 2000000 in
theorem told70 (B : Option Addr) (cb i : Nat) (l : List (Int × Int × Int)) (w : World) (hl : Threes w w.heap.size B l) (hll : l.length ≤ 9223372036854775807) :
    Calls Tryd.prog 70 #[.slice B l.length cb, I i] w fun e w' => e = .returned (.agg #[I (toldW l i).1, I (toldW l i).2]) ∧ Below w.heap.size w w' := by
  have HM := Lib.hid hl
  clear hl
  go_enter Tryd.func70, Tryd.ntmps70
  go_wp2_with (fail)
  have hBz : Below w.heap.size w ((w.alloc (.cells #[I 0, I 0] 39)).alloc (.cells #[I 0, I 1600] 39)) := by (repeat' (first | assumption | exact Below.refl _ _ | refine Below.drew ?_ | refine below_drewN ?_ _ | refine Below.setCell ?_ (by first | omega | (simp; done) | (simp; omega)) _ | refine Below.alloc ?_ (by first | omega | (simp; done) | (simp; omega)) _ | refine Below.trans ?_ (Below.mono (by assumption) (by first | omega | (simp; done) | (simp; omega)))))
  have HR0 : Hid (Box ((w.alloc (.cells #[I 0, I 0] 39)).alloc (.cells #[I 0, I 1600] 39)) w.heap.size [I 0, I 0]) := Lib.hid ((Box.new w [I 0, I 0] 39).alloc _)
  have HB0 : Hid (Box ((w.alloc (.cells #[I 0, I 0] 39)).alloc (.cells #[I 0, I 1600] 39)) (w.heap.size + 1) [I (toldW (l.take 0) i).1, I (toldW (l.take 0) i).2]) := Lib.hid (by
    have := Box.new (w.alloc (.cells #[I 0, I 0] 39)) [I 0, I 1600] 39
    rwa [World.size_alloc] at this)
  generalize (w.alloc (.cells #[I 0, I 0] 39)).alloc (.cells #[I 0, I 1600] 39) = wz at *
  go_loopw [6] (fun s wr => ∃ k : Nat, k ≤ l.length ∧ s = I k ∧ Below w.heap.size w wr ∧ Hid (Box wr w.heap.size [I 0, I 0]) ∧ Hid (Box wr (w.heap.size + 1) [I (toldW (l.take k) i).1, I (toldW (l.take k) i).2])) (fun s _ => l.length - (intOf s).toNat)
  case atStart => exact ⟨0, Nat.zero_le _, rfl, hBz, HR0, HB0⟩
  case round =>
    clear hBz HR0 HB0
    obtain ⟨k, hk, rfl, hB, HR, HX⟩ := hrel
    obtain ⟨x0, y0⟩ := HX.out.at_ 0 _ rfl
    obtain ⟨x1, y1⟩ := HX.out.at_ 1 _ rfl
    have hobz := HX.out.1
    by_cases hlt : k < l.length
    · obtain ⟨b, o, rfl, hbz, hcs⟩ := (HM.out.below hB) (by omega)
      obtain ⟨c0, c1, c2⟩ := hcs k hlt
      have HN := Lib.hid (toldW_snoc l k hlt i)
      obtain ⟨tn, htn⟩ : ∃ tn, tn = toldW (l.take (k + 1)) i := ⟨_, rfl⟩
      rw [← htn] at HN
      have HTN := Lib.hid htn
      clear htn
      generalize toldW (l.take k) i = q at *
      obtain ⟨q1, q2⟩ := q
      generalize l[k] = r at *
      obtain ⟨a, r1, r2⟩ := r
      simp only at c0 c1 c2 x0 x1
      have hwz := hB.size
      have hbw : b < wr.heap.size := by omega
      have HBB := Lib.hid hB
      clear hcs
      by_cases ha : a = (i : Int)
      · have hab : (a == (i : Int)) = true := by simpa using ha
        have HA := Lib.hid ha
        clear ha hB
        go_wp2_with (fail)
        refine (wpIn_wide (n := 9)).1 ?_
        refine wpIn_region_plan (Plan.ons [0, 1, 2, 3, 4, 5, 6, 7] .fin) [] (fun _ => True) [] rfl (by kernel_rfl) (by kernel_rfl) (fun _ d _ _ _ h => by cases d <;> exact h) trivial ?_
        iterate 6 (refine ordQ_li rfl rfl rfl (fun K hK => ?_); go_simp; refine hK _ ?_; clear hK K)
        refine ordQ_hv rfl rfl rfl (fun K hK => ?_)
        gi_wp2_with (refine And.intro trivial ?_; gi_at_call 89; refine callsIn_wide.2 ((both89 _ _ _ _ _).mono ?_); rintro e w5 ⟨rfl, hB5⟩)
        have hb5 : Below wr.heap.size wr w5 := by simpa using (Below.refl _ _).drew.trans hB5
        refine hK _ _ (fun _ => trivial) ?_
        clear hK K hB5
        have hE5 := HX.out.call hb5
        have hR5 := HR.out.call hb5
        obtain ⟨x0', y0'⟩ := hE5.at_ 0 _ rfl
        obtain ⟨x1', y1'⟩ := hE5.at_ 1 _ rfl
        refine ordQ_hv rfl rfl rfl (fun K hK => ?_)
        gi_wp2
        refine hK _ _ (fun _ => trivial) ?_
        clear hK K
        refine ordQ_fin ?_
        have hB6 : Below w.heap.size w ((w5.setCell ⟨w.heap.size + 1, 0, none⟩ (I (max q1 r1))).setCell ⟨w.heap.size + 1, 1, none⟩ (I (min q2 r2))) := ((HBB.out.trans (hb5.mono hwz)).setCell (by simp) _).setCell (by simp) _
        have HX6 : Hid (Box ((w5.setCell ⟨w.heap.size + 1, 0, none⟩ (I (max q1 r1))).setCell ⟨w.heap.size + 1, 1, none⟩ (I (min q2 r2))) (w.heap.size + 1) [I tn.1, I tn.2]) := Lib.hid (by
          rw [HN.out, if_pos HA.out]
          exact (hE5.set 0 _).set 1 _)
        have HR6 : Hid (Box ((w5.setCell ⟨w.heap.size + 1, 0, none⟩ (I (max q1 r1))).setCell ⟨w.heap.size + 1, 1, none⟩ (I (min q2 r2))) w.heap.size [I 0, I 0]) := Lib.hid ((hR5.far (by simp) _).far (by simp) _)
        clear x0' y0' x1' y1' hE5 hR5 x0 x1 y0 y1
        go_wp2
        go_roundw
        case rel => exact ⟨k + 1, by omega, by go_num, hB6, HR6, Lib.hid (by rw [← HTN.out]; exact HX6.out)⟩
        case measure => first | (simp [intOf]; done) | (simp [intOf]; omega)
      · have hab : (a == (i : Int)) = false := by simpa using ha
        have HX2 : Hid (Box wr (w.heap.size + 1) [I tn.1, I tn.2]) := Lib.hid (by rw [HN.out, if_neg ha]; exact HX.out)
        clear ha
        go_wp2
        go_roundw
        case rel => exact ⟨k + 1, by omega, by go_num, hB, HR, Lib.hid (by rw [← HTN.out]; exact HX2.out)⟩
        case measure => first | (simp [intOf]; done) | (simp [intOf]; omega)
    · obtain rfl : l.length = k := by omega
      rw [List.take_length] at x0 x1
      obtain ⟨c0, d0⟩ := HR.out.at_ 0 _ rfl
      obtain ⟨c1, d1⟩ := HR.out.at_ 1 _ rfl
      go_wp2
      refine bodyPost_ret (v := .agg #[I (toldW l i).1, I (toldW l i).2]) (by simp [results, Tryd.results70, go_sem, c0, c1]) rfl ⟨rfl, ?_⟩
      exact (hB.setCell (by simp) _).setCell (by simp) _
end Go.Proofs.YtgdilbilhajgaaaDoor
/- The document's Ints: two rows of numbers are alike. -/
namespace Go.Proofs.YtgdilbilhajgaaaDoor
set_option linter.unusedVariables false
set_option linter.unusedSimpArgs false
open Go Go.RowKit

set_option maxRecDepth 100000 in
set_option maxHeartbeats 1000000 in
theorem ints17 (A B : Option Addr) (c d : Nat) (xs ys : List Int) (w : World) (hx : Ints w w.heap.size A xs) (hy : Ints w w.heap.size B ys) (hxl : xs.length ≤ 9223372036854775807) (hyl : ys.length ≤ 9223372036854775807) :
    Calls Tryd.prog 17 #[.slice A xs.length c, .slice B ys.length d] w fun e w' => e = .returned (.bool (decide (xs = ys))) ∧ Below w.heap.size w w' := by
  have HX := Lib.hid hx
  have HY := Lib.hid hy
  have HL : Hid (xs.length ≠ ys.length → decide (xs = ys) = false) := Lib.hid fun h => decide_eq_false fun e => h (by rw [e])
  have HE : Hid (xs.length = ys.length → (∀ j (h : j < xs.length) (h' : j < ys.length), xs[j] = ys[j]) → decide (xs = ys) = true) := Lib.hid fun h h' => decide_eq_true (List.ext_getElem h h')
  have HD : Hid (∀ j (h : j < xs.length) (h' : j < ys.length), xs[j] ≠ ys[j] → decide (xs = ys) = false) := Lib.hid fun j h h' hne => decide_eq_false fun e => hne (by subst e; rfl)
  generalize decide (xs = ys) = mb at *
  clear hx hy
  by_cases hl : xs.length = ys.length
  · have hlb : (((xs.length : Int)) != (ys.length : Int)) = false := by simp [hl]
    have hlb2 : (xs.length != ys.length) = false := by simp [hl]
    have HLL := Lib.hid hl
    clear hl
    go_enter Tryd.func17, Tryd.ntmps17
    go_wp2
    go_loopw [5] (fun s wr => ∃ k : Nat, k ≤ xs.length ∧ s = I k ∧ Below w.heap.size w wr ∧ Hid (∀ j (h : j < xs.length) (h' : j < ys.length), j < k → xs[j] = ys[j])) (fun s _ => xs.length - (intOf s).toNat)
    case atStart => exact ⟨0, by omega, rfl, Below.refl _ _, Lib.hid fun j _ _ h => by omega⟩
    case round =>
      obtain ⟨k, hk, rfl, hB, HA⟩ := hrel
      by_cases hlt : k < xs.length
      · have hlt2 : k < ys.length := by have := HLL.out; omega
        obtain ⟨b1, o1, rfl, hbz1, hc1⟩ := (HX.out.below hB) (by omega)
        obtain ⟨b2, o2, rfl, hbz2, hc2⟩ := (HY.out.below hB) (by omega)
        have x0 := hc1 k hlt
        have y0 := hc2 k hlt2
        have HDk := Lib.hid (HD.out k hlt hlt2)
        have HST : Hid (xs[k] = ys[k] → ∀ j (h : j < xs.length) (h' : j < ys.length), j < k + 1 → xs[j] = ys[j]) := Lib.hid fun e j h h' hj => by
          rcases Nat.lt_succ_iff_lt_or_eq.1 hj with h1 | rfl
          · exact HA.out j h h' h1
          · exact e
        generalize xs[k] = x at *
        generalize ys[k] = y at *
        have b0 : (0 : Int) ≤ (k : Int) := by omega
        have b1' : (k : Int) < (xs.length : Int) := by omega
        have b2' : (k : Int) < (ys.length : Int) := by omega
        clear hc1 hc2
        by_cases he : x = y
        · have heb : (x != y) = false := by simpa using he
          have HE1 := Lib.hid he
          clear he
          go_wp2_with (fail)
          go_quiet (fail)
          go_wp2
          go_roundw
          case rel => exact ⟨k + 1, by omega, by go_num, (by first | exact hB | exact below_drewN hB _), Lib.hid (HST.out HE1.out)⟩
          case measure => first | (simp [intOf]; done) | (simp [intOf]; omega)
        · have heb : (x != y) = true := by simpa using he
          have HE1 := Lib.hid he
          clear he
          go_wp2_with (fail)
          go_quiet (fail)
          go_wp2
          go_ret
          exact ⟨ret_b (HDk.out HE1.out).symm, by first | exact hB | exact below_drewN hB _⟩
      · have HE1 := Lib.hid (HE.out HLL.out (fun j h h' => HA.out j h h' (by omega)))
        go_wp2
        go_ret
        exact ⟨ret_b HE1.out.symm, by first | exact hB | exact below_drewN hB _⟩
  · have hlb : (((xs.length : Int)) != (ys.length : Int)) = true := by simp; omega
    have hlb2 : (xs.length != ys.length) = true := by simpa using hl
    have HL1 := Lib.hid (HL.out hl)
    clear hl
    go_enter Tryd.func17, Tryd.ntmps17
    go_wp2
    go_ret
    exact ⟨ret_b HL1.out.symm, Below.refl _ _⟩
end Go.Proofs.YtgdilbilhajgaaaDoor
/- The document's Spans: two rows of spans are alike. -/
namespace Go.Proofs.YtgdilbilhajgaaaDoor
set_option linter.unusedVariables false
set_option linter.unusedSimpArgs false
open Go Go.RowKit

set_option maxRecDepth 100000 in
set_option maxHeartbeats 1000000 in
theorem spans25 (A B : Option Addr) (c d : Nat) (xs ys : List (Int × Int)) (w : World) (hx : Pairs w w.heap.size A xs) (hy : Pairs w w.heap.size B ys) (hxl : xs.length ≤ 9223372036854775807) (hyl : ys.length ≤ 9223372036854775807) :
    Calls Tryd.prog 25 #[.slice A xs.length c, .slice B ys.length d] w fun e w' => e = .returned (.bool (decide (xs = ys))) ∧ Below w.heap.size w w' := by
  have HX := Lib.hid hx
  have HY := Lib.hid hy
  have HL : Hid (xs.length ≠ ys.length → decide (xs = ys) = false) := Lib.hid fun h => decide_eq_false fun e => h (by rw [e])
  have HE : Hid (xs.length = ys.length → (∀ j (h : j < xs.length) (h' : j < ys.length), xs[j] = ys[j]) → decide (xs = ys) = true) := Lib.hid fun h h' => decide_eq_true (List.ext_getElem h h')
  have HD : Hid (∀ j (h : j < xs.length) (h' : j < ys.length), xs[j] ≠ ys[j] → decide (xs = ys) = false) := Lib.hid fun j h h' hne => decide_eq_false fun e => hne (by subst e; rfl)
  generalize decide (xs = ys) = mb at *
  clear hx hy
  by_cases hl : xs.length = ys.length
  · have hlb : (((xs.length : Int)) != (ys.length : Int)) = false := by simp [hl]
    have hlb2 : (xs.length != ys.length) = false := by simp [hl]
    have HLL := Lib.hid hl
    clear hl
    go_enter Tryd.func25, Tryd.ntmps25
    go_wp2
    go_loopw [5] (fun s wr => ∃ k : Nat, k ≤ xs.length ∧ s = I k ∧ Below w.heap.size w wr ∧ Hid (∀ j (h : j < xs.length) (h' : j < ys.length), j < k → xs[j] = ys[j])) (fun s _ => xs.length - (intOf s).toNat)
    case atStart => exact ⟨0, by omega, rfl, Below.refl _ _, Lib.hid fun j _ _ h => by omega⟩
    case round =>
      obtain ⟨k, hk, rfl, hB, HA⟩ := hrel
      by_cases hlt : k < xs.length
      · have hlt2 : k < ys.length := by have := HLL.out; omega
        obtain ⟨b1, o1, rfl, hbz1, hc1⟩ := (HX.out.below hB) (by omega)
        obtain ⟨b2, o2, rfl, hbz2, hc2⟩ := (HY.out.below hB) (by omega)
        obtain ⟨x0, x1⟩ := hc1 k hlt
        obtain ⟨y0, y1⟩ := hc2 k hlt2
        have HDk := Lib.hid (HD.out k hlt hlt2)
        have HST : Hid (xs[k] = ys[k] → ∀ j (h : j < xs.length) (h' : j < ys.length), j < k + 1 → xs[j] = ys[j]) := Lib.hid fun e j h h' hj => by
          rcases Nat.lt_succ_iff_lt_or_eq.1 hj with h1 | rfl
          · exact HA.out j h h' h1
          · exact e
        generalize xs[k] = x at *
        generalize ys[k] = y at *
        obtain ⟨xa, xb⟩ := x
        obtain ⟨ya, yb⟩ := y
        simp only at x0 x1 y0 y1
        have b0 : (0 : Int) ≤ (k : Int) := by omega
        have b1' : (k : Int) < (xs.length : Int) := by omega
        have b2' : (k : Int) < (ys.length : Int) := by omega
        clear hc1 hc2
        by_cases he : (xa, xb) = (ya, yb)
        · obtain ⟨rfl, rfl⟩ := Prod.mk.inj he
          have HE1 := Lib.hid he
          clear he
          go_wp2_with (fail)
          go_quiet (fail)
          go_wp2
          go_roundw
          case rel => exact ⟨k + 1, by omega, by go_num, (by first | exact hB | exact below_drewN hB _), Lib.hid (HST.out HE1.out)⟩
          case measure => first | (simp [intOf]; done) | (simp [intOf]; omega)
        · have heb : ¬ (xa = ya ∧ xb = yb) := fun h => he (by rw [h.1, h.2])
          have heb2 : xa = ya → ¬ xb = yb := fun h h' => heb ⟨h, h'⟩
          have HE1 := Lib.hid he
          clear he heb2
          by_cases ha : xa = ya
          · subst ha
            have hbb : (xb == yb) = false := by simpa using heb
            have hbc : (xb != yb) = true := by simpa using heb
            have hbd : ¬ xb = yb := fun e => heb ⟨rfl, e⟩
            clear heb
            go_wp2_with (fail)
            go_quiet (fail)
            go_wp2
            go_ret
            exact ⟨ret_b (HDk.out HE1.out).symm, by first | exact hB | exact below_drewN hB _⟩
          · have hbb : (xa == ya) = false := by simpa using ha
            have hbc : (xa != ya) = true := by simpa using ha
            clear heb
            go_wp2_with (fail)
            go_quiet (fail)
            go_wp2
            go_ret
            exact ⟨ret_b (HDk.out HE1.out).symm, by first | exact hB | exact below_drewN hB _⟩
      · have HE1 := Lib.hid (HE.out HLL.out (fun j h h' => HA.out j h h' (by omega)))
        go_wp2
        go_ret
        exact ⟨ret_b HE1.out.symm, by first | exact hB | exact below_drewN hB _⟩
  · have hlb : (((xs.length : Int)) != (ys.length : Int)) = true := by simp; omega
    have hlb2 : (xs.length != ys.length) = true := by simpa using hl
    have HL1 := Lib.hid (HL.out hl)
    clear hl
    go_enter Tryd.func25, Tryd.ntmps25
    go_wp2
    go_ret
    exact ⟨ret_b HL1.out.symm, Below.refl _ _⟩
end Go.Proofs.YtgdilbilhajgaaaDoor
