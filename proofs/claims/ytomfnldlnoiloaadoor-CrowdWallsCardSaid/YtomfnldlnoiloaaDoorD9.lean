/- The document: is a stand in a wall? -/
import Derived.Test.YtomfnldlnoiloaaDoorTw
import Derived.BigQuiet
import Derived.Laws.StructEq
namespace Go.Proofs.YtomfnldlnoiloaaDoor
set_option linter.unusedVariables false
set_option linter.unusedSimpArgs false
open Go Go.RowKit

set_option maxRecDepth 100000 in
set_option maxHeartbeats 2000000 in
theorem has50 (A : Option Addr) (c : Nat) (xs : List (Int × Int)) (p t : Int) (w : World) (hx : Twos w w.heap.size A xs) (hxl : xs.length ≤ 9223372036854775807) :
    Calls Tryd.prog 50 #[.slice A xs.length c, I p, I t] w fun e w' => e = .returned (.bool (decide ((p, t) ∈ xs))) ∧ Below w.heap.size w w' := by
  have HX := Lib.hid hx
  have HY : Hid (∀ j (h : j < xs.length), xs[j] = (p, t) → decide ((p, t) ∈ xs) = true) := Lib.hid fun j h e => decide_eq_true (by rw [← e]; exact List.getElem_mem h)
  have HN : Hid ((∀ j (h : j < xs.length), xs[j] ≠ (p, t)) → decide ((p, t) ∈ xs) = false) := Lib.hid fun h => decide_eq_false fun hm => by
    obtain ⟨i, hi, e⟩ := List.getElem_of_mem hm
    exact h i hi e
  have u46 := Tryd.underlying46
  generalize decide ((p, t) ∈ xs) = mb at *
  clear hx
  go_enter Tryd.func50, Tryd.ntmps50
  go_wp2_with (fail)
  go_loopw [7] (fun s wr => ∃ k : Nat, k ≤ xs.length ∧ s = I k ∧ Below w.heap.size w wr ∧ Hid (∀ j (h : j < xs.length), j < k → xs[j] ≠ (p, t))) (fun s _ => xs.length - (intOf s).toNat)
  case atStart => exact ⟨0, by omega, rfl, Below.refl _ _, Lib.hid fun j _ h => by omega⟩
  case round =>
    obtain ⟨k, hk, rfl, hB, HA⟩ := hrel
    by_cases hlt : k < xs.length
    · obtain ⟨b1, o1, rfl, hbz1, hc1⟩ := (HX.out.below hB) (by omega)
      obtain ⟨x0, x1⟩ := hc1 k hlt
      have HYk : Hid (xs[k].1 = p ∧ xs[k].2 = t → mb = true) := Lib.hid fun h => HY.out k hlt (Prod.ext h.1 h.2)
      have HST : Hid (¬ (xs[k].1 = p ∧ xs[k].2 = t) → ∀ j (h : j < xs.length), j < k + 1 → xs[j] ≠ (p, t)) := Lib.hid fun e j h hj => by
        rcases Nat.lt_succ_iff_lt_or_eq.1 hj with h1 | rfl
        · exact HA.out j h h1
        · exact fun h2 => e ⟨by rw [h2], by rw [h2]⟩
      generalize xs[k].1 = xa at *
      generalize xs[k].2 = xb at *
      have b0 : (0 : Int) ≤ (k : Int) := by omega
      have b1' : (k : Int) < (xs.length : Int) := by omega
      clear hc1
      by_cases he : xa = p
      · by_cases hf : xb = t
        · have HE1 := Lib.hid (HYk.out (And.intro he hf))
          go_wp2_with (fail)
          go_ret
          exact ⟨ret_b HE1.out.symm, hB⟩
        · have HE1 := Lib.hid (HST.out fun h => hf h.2)
          go_wp2_with (fail)
          go_roundw
          case rel => exact ⟨k + 1, by omega, by go_num, hB, HE1⟩
          case measure => first | (simp [intOf]; done) | (simp [intOf]; omega)
      · have HE1 := Lib.hid (HST.out fun h => he h.1)
        go_wp2_with (fail)
        go_roundw
        case rel => exact ⟨k + 1, by omega, by go_num, hB, HE1⟩
        case measure => first | (simp [intOf]; done) | (simp [intOf]; omega)
    · have HE1 := Lib.hid (HN.out (fun j h => HA.out j h (by omega)))
      go_wp2_with (fail)
      go_ret
      exact ⟨ret_b HE1.out.symm, hB⟩
end Go.Proofs.YtomfnldlnoiloaaDoor
