/- Rows alike; the least; comparing; the rangers of a set. -/
import Derived.Test.YtfebhofihioaoaaS6
import Derived.BigQuiet
namespace Go.Proofs.Ytfebhofihioaoaa
set_option linter.unusedVariables false
set_option linter.unusedSimpArgs false
open Go Go.RowKit

set_option maxRecDepth 100000 in
set_option maxHeartbeats 1000000 in
theorem ints20 (A B : Option Addr) (c d : Nat) (xs ys : List Int) (w : World) (hx : Ints w w.heap.size A xs) (hy : Ints w w.heap.size B ys) (hxl : xs.length ≤ 9223372036854775807) (hyl : ys.length ≤ 9223372036854775807) :
    Calls Try.prog 20 #[.slice A xs.length c, .slice B ys.length d] w fun e w' => e = .returned (.bool (decide (xs = ys))) ∧ Below w.heap.size w w' := by
  have HX := Lib.hid hx
  have HY := Lib.hid hy
  have HL : Hid (xs.length ≠ ys.length → decide (xs = ys) = false) := Lib.hid fun h => decide_eq_false fun e => h (by rw [e])
  have HE : Hid (xs.length = ys.length → (∀ j (h : j < xs.length) (h' : j < ys.length), xs[j] = ys[j]) → decide (xs = ys) = true) := Lib.hid fun h h' => decide_eq_true (List.ext_getElem h h')
  have HD : Hid (∀ j (h : j < xs.length) (h' : j < ys.length), xs[j] ≠ ys[j] → decide (xs = ys) = false) := Lib.hid fun j h h' hne => decide_eq_false fun e => hne (by subst e; rfl)
  generalize decide (xs = ys) = mb at *
  clear hx hy
  by_cases hl : xs.length = ys.length
  · have hlb : (((xs.length : Int)) != (ys.length : Int)) = false := by simp [hl]
    have hlb2 : (xs.length != ys.length) = false := by simp [hl]
    have HLL := Lib.hid hl
    clear hl
    go_enter Try.func20, Try.ntmps20
    go_wp2
    go_loopw [5] (fun s wr => ∃ k : Nat, k ≤ xs.length ∧ s = I k ∧ Below w.heap.size w wr ∧ Hid (∀ j (h : j < xs.length) (h' : j < ys.length), j < k → xs[j] = ys[j])) (fun s _ => xs.length - (intOf s).toNat)
    case atStart => exact ⟨0, by omega, rfl, Below.refl _ _, Lib.hid fun j _ _ h => by omega⟩
    case round =>
      obtain ⟨k, hk, rfl, hB, HA⟩ := hrel
      by_cases hlt : k < xs.length
      · have hlt2 : k < ys.length := by have := HLL.out; omega
        obtain ⟨b1, o1, rfl, hbz1, hc1⟩ := (HX.out.below hB) (by omega)
        obtain ⟨b2, o2, rfl, hbz2, hc2⟩ := (HY.out.below hB) (by omega)
        have x0 := hc1 k hlt
        have y0 := hc2 k hlt2
        have HDk := Lib.hid (HD.out k hlt hlt2)
        have HST : Hid (xs[k] = ys[k] → ∀ j (h : j < xs.length) (h' : j < ys.length), j < k + 1 → xs[j] = ys[j]) := Lib.hid fun e j h h' hj => by
          rcases Nat.lt_succ_iff_lt_or_eq.1 hj with h1 | rfl
          · exact HA.out j h h' h1
          · exact e
        generalize xs[k] = x at *
        generalize ys[k] = y at *
        have b0 : (0 : Int) ≤ (k : Int) := by omega
        have b1' : (k : Int) < (xs.length : Int) := by omega
        have b2' : (k : Int) < (ys.length : Int) := by omega
        clear hc1 hc2
        by_cases he : x = y
        · have heb : (x != y) = false := by simpa using he
          have HE1 := Lib.hid he
          clear he
          go_wp2_with (fail)
          go_quiet (fail)
          go_wp2
          go_roundw
          case rel => exact ⟨k + 1, by omega, by go_num, (by first | exact hB | exact below_drewN hB _), Lib.hid (HST.out HE1.out)⟩
          case measure => first | (simp [intOf]; done) | (simp [intOf]; omega)
        · have heb : (x != y) = true := by simpa using he
          have HE1 := Lib.hid he
          clear he
          go_wp2_with (fail)
          go_quiet (fail)
          go_wp2
          go_ret
          exact ⟨ret_b (HDk.out HE1.out).symm, by first | exact hB | exact below_drewN hB _⟩
      · have HE1 := Lib.hid (HE.out HLL.out (fun j h h' => HA.out j h h' (by omega)))
        go_wp2
        go_ret
        exact ⟨ret_b HE1.out.symm, by first | exact hB | exact below_drewN hB _⟩
  · have hlb : (((xs.length : Int)) != (ys.length : Int)) = true := by simp; omega
    have hlb2 : (xs.length != ys.length) = true := by simpa using hl
    have HL1 := Lib.hid (HL.out hl)
    clear hl
    go_enter Try.func20, Try.ntmps20
    go_wp2
    go_ret
    exact ⟨ret_b HL1.out.symm, Below.refl _ _⟩

/-- The least of a number and of the first k of a list. -/
def minTo (r : Int) (l : List Int) : Nat → Int
  | 0 => r
  | k + 1 => min (minTo r l k) (l.getD k 0)
theorem least52 (r : Int) (A : Option Addr) (c : Nat) (l : List Int) (w : World) (hl : Ints w w.heap.size A l) (hll : l.length ≤ 9223372036854775807) :
    Calls Try.prog 52 #[I r, .slice A l.length c] w fun e w' => e = .returned (I (minTo r l l.length)) ∧ w = w' := by
  have HL := Lib.hid hl
  clear hl
  go_enter Try.func52, Try.ntmps52
  go_wp2_with (fail)
  go_loop [0, 9] (fun s0 s9 => ∃ k : Nat, k ≤ l.length ∧ s9 = I k ∧ s0 = I (minTo r l k)) (fun _ s => l.length - (intOf s).toNat)
  case atStart => exact ⟨0, by omega, rfl, rfl⟩
  case round =>
    obtain ⟨k, hk, rfl, rfl⟩ := hrel
    by_cases hlt : k < l.length
    · obtain ⟨lb, lo, hLe, hlz, hlc⟩ := HL.out (by omega)
      subst hLe
      have l0 := hlc k hlt
      have HM : Hid (minTo r l (k + 1) = min (minTo r l k) l[k]) := Lib.hid (by simp [minTo, List.getD, hlt])
      generalize l[k] = v at *
      generalize minTo r l k = m at *
      clear hlc
      have p0 : (0 : Int) ≤ (k : Int) := by omega
      have p1 : (k : Int) < (l.length : Int) := by omega
      go_wp2
      go_round
      case rel => exact ⟨k + 1, by omega, by go_num, by rw [HM.out]⟩
      case measure => simp [intOf]; omega
    · obtain rfl : l.length = k := by omega
      go_wp2
      go_ret
      exact ⟨rfl, rfl⟩
theorem isNaN59 (a : Int) (w : World) : Calls Try.prog 59 #[I a] w fun e w' => e = .returned (.bool false) ∧ w = w' := by
  go_enter Try.func59, Try.ntmps59
  go_wp2
  go_ret
  exact ⟨rfl, rfl⟩
def cmpI (a b : Int) : Int := if a < b then -1 else if b < a then 1 else 0
theorem cmp55 (a b : Int) (w : World) : Calls Try.prog 55 #[I a, I b] w fun e w' => e = .returned (I (cmpI a b)) ∧ w = w' := by
  have HN : Hid (∀ (x : Int) (W : World), Calls Try.prog 59 #[I x] W fun e w' => e = .returned (.bool false) ∧ W = w') := Lib.hid isNaN59
  have HC : Hid (∀ v : Int, (a < b → v = -1) → (b < a → v = 1) → (a = b → v = 0) → v = cmpI a b) := Lib.hid fun v h1 h2 h3 => by
    unfold cmpI
    split
    · exact h1 ‹_›
    · split
      · exact h2 ‹_›
      · exact h3 (by omega)
  generalize cmpI a b = z at *
  rcases Int.lt_trichotomy a b with h | h | h
  all_goals
    go_enter Try.func55, Try.ntmps55
    go_wp2_with (first
      | (go_at_call 59; refine (HN.out _ _).mono ?_; rintro e w1 ⟨rfl, rfl⟩)
      | fail)
    go_ret
    exact ⟨ret_int (HC.out _ (by omega) (by omega) (by omega)), rfl⟩
theorem compare54 (a b c d : Int) (w : World) : Calls Try.prog 54 #[.agg #[I a, I b], .agg #[I c, I d]] w fun e w' => e = .returned (I (cmpI a c)) ∧ Below w.heap.size w w' := by
  have HN : Hid (∀ (x y : Int) (W : World), Calls Try.prog 55 #[I x, I y] W fun e w' => e = .returned (I (cmpI x y)) ∧ W = w') := Lib.hid cmp55
  go_enter Try.func54, Try.ntmps54
  go_wp2_with (first
    | (go_at_call 55; refine (HN.out _ _ _).mono ?_; rintro e w1 ⟨rfl, rfl⟩)
    | fail)
  go_ret
  exact ⟨rfl, by (repeat' (first | assumption | exact Below.refl _ _ | refine Below.drew ?_ | refine below_drewN ?_ _ | refine Below.setCell ?_ (by first | omega | (simp; done) | (simp; omega)) _ | refine Below.alloc ?_ (by first | omega | (simp; done) | (simp; omega)) _ | refine Below.trans ?_ (Below.mono (by assumption) (by first | omega | (simp; done) | (simp; omega)))))⟩
end Go.Proofs.Ytfebhofihioaoaa
