/- Are two walls the same? -/
import Derived.Test.YtomfnldlnoiloaaDoorTw
import Derived.BigQuiet
import Derived.Laws.StructEq
namespace Go.Proofs.YtomfnldlnoiloaaDoor
set_option linter.unusedVariables false
set_option linter.unusedSimpArgs false
open Go Go.RowKit

set_option maxRecDepth 100000 in
set_option maxHeartbeats 1000000 in
theorem stands20 (A B : Option Addr) (c d : Nat) (xs ys : List (Int × Int)) (w : World) (hx : Twos w w.heap.size A xs) (hy : Twos w w.heap.size B ys) (hxl : xs.length ≤ 9223372036854775807) (hyl : ys.length ≤ 9223372036854775807) :
    Calls Tryd.prog 20 #[.slice A xs.length c, .slice B ys.length d] w fun e w' => e = .returned (.bool (decide (xs = ys))) ∧ Below w.heap.size w w' := by
  have HX := Lib.hid hx
  have HY := Lib.hid hy
  have HL : Hid (xs.length ≠ ys.length → decide (xs = ys) = false) := Lib.hid fun h => decide_eq_false fun e => h (by rw [e])
  have HE : Hid (xs.length = ys.length → (∀ j (h : j < xs.length) (h' : j < ys.length), xs[j] = ys[j]) → decide (xs = ys) = true) := Lib.hid fun h h' => decide_eq_true (List.ext_getElem h h')
  have HD : Hid (∀ j (h : j < xs.length) (h' : j < ys.length), xs[j] ≠ ys[j] → decide (xs = ys) = false) := Lib.hid fun j h h' hne => decide_eq_false fun e => hne (by subst e; rfl)
  have u46 := Tryd.underlying46
  generalize decide (xs = ys) = mb at *
  clear hx hy
  by_cases hl : xs.length = ys.length
  · have hlb : (((xs.length : Int)) != (ys.length : Int)) = false := by simp [hl]
    have hlb2 : (xs.length != ys.length) = false := by simp [hl]
    have HLL := Lib.hid hl
    clear hl
    go_enter Tryd.func20, Tryd.ntmps20
    go_wp2
    go_loopw [5] (fun s wr => ∃ k : Nat, k ≤ xs.length ∧ s = I k ∧ Below w.heap.size w wr ∧ Hid (∀ j (h : j < xs.length) (h' : j < ys.length), j < k → xs[j] = ys[j])) (fun s _ => xs.length - (intOf s).toNat)
    case atStart => exact ⟨0, by omega, rfl, Below.refl _ _, Lib.hid fun j _ _ h => by omega⟩
    case round =>
      obtain ⟨k, hk, rfl, hB, HA⟩ := hrel
      by_cases hlt : k < xs.length
      · have hlt2 : k < ys.length := by have := HLL.out; omega
        obtain ⟨b1, o1, rfl, hbz1, hc1⟩ := (HX.out.below hB) (by omega)
        obtain ⟨b2, o2, rfl, hbz2, hc2⟩ := (HY.out.below hB) (by omega)
        obtain ⟨x0, x1⟩ := hc1 k hlt
        obtain ⟨y0, y1⟩ := hc2 k hlt2
        have HDk : Hid (¬ (xs[k].1 = ys[k].1 ∧ xs[k].2 = ys[k].2) → mb = false) := Lib.hid fun h => HD.out k hlt hlt2 fun e => h (by rw [e]; exact ⟨rfl, rfl⟩)
        have HST : Hid (xs[k].1 = ys[k].1 ∧ xs[k].2 = ys[k].2 → ∀ j (h : j < xs.length) (h' : j < ys.length), j < k + 1 → xs[j] = ys[j]) := Lib.hid fun e j h h' hj => by
          rcases Nat.lt_succ_iff_lt_or_eq.1 hj with h1 | rfl
          · exact HA.out j h h' h1
          · exact Prod.ext e.1 e.2
        generalize xs[k].1 = xa at *
        generalize xs[k].2 = xb at *
        generalize ys[k].1 = ya at *
        generalize ys[k].2 = yb at *
        have b0 : (0 : Int) ≤ (k : Int) := by omega
        have b1' : (k : Int) < (xs.length : Int) := by omega
        have b2' : (k : Int) < (ys.length : Int) := by omega
        clear hc1 hc2
        by_cases he : xa = ya
        · by_cases hf : xb = yb
          · have HE1 := Lib.hid (And.intro he hf)
            go_wp2_with (fail)
            go_quiet (fail)
            go_wp2
            go_roundw
            case rel => exact ⟨k + 1, by omega, by go_num, (by first | exact hB | exact below_drewN hB _), Lib.hid (HST.out HE1.out)⟩
            case measure => first | (simp [intOf]; done) | (simp [intOf]; omega)
          · have HE1 : Hid (¬ (xa = ya ∧ xb = yb)) := Lib.hid fun h => hf h.2
            go_wp2_with (fail)
            go_quiet (fail)
            go_wp2
            go_ret
            exact ⟨ret_b (HDk.out HE1.out).symm, by first | exact hB | exact below_drewN hB _⟩
        · have HE1 : Hid (¬ (xa = ya ∧ xb = yb)) := Lib.hid fun h => he h.1
          go_wp2_with (fail)
          go_quiet (fail)
          go_wp2
          go_ret
          exact ⟨ret_b (HDk.out HE1.out).symm, by first | exact hB | exact below_drewN hB _⟩
      · have HE1 := Lib.hid (HE.out HLL.out (fun j h h' => HA.out j h h' (by omega)))
        go_wp2
        go_ret
        exact ⟨ret_b HE1.out.symm, by first | exact hB | exact below_drewN hB _⟩
  · have hlb : (((xs.length : Int)) != (ys.length : Int)) = true := by simp; omega
    have hlb2 : (xs.length != ys.length) = true := by simpa using hl
    have HL1 := Lib.hid (HL.out hl)
    clear hl
    go_enter Tryd.func20, Tryd.ntmps20
    go_wp2
    go_ret
    exact ⟨ret_b HL1.out.symm, Below.refl _ _⟩
end Go.Proofs.YtomfnldlnoiloaaDoor
