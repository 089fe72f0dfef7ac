/- sort.Search. -/
import Derived.Test.YtilmlgngnbokfaaV
namespace Go.Proofs.Ytilmlgngnbokfaa
set_option linter.unusedVariables false
set_option linter.unusedSimpArgs false
open Go.RowKit

set_option maxRecDepth 100000 in
set_option maxHeartbeats 1000000 in
theorem search53 (g : Nat) (lb : Array Value) (eg : ∀ args w, (callFunc g args).run Try.prog w = .ok (.enter g args) w) (n : Nat) (hn : n ≤ 1000) (p : Nat → Bool) (w : World)
    (hp : ∀ k, k < n → ∀ W, Below w.heap.size w W → Calls Try.prog g (#[I k] ++ lb) W fun e w' => e = .returned (.bool (p k)) ∧ Below W.heap.size W w') :
    Calls Try.prog 53 #[I n, .func (.func g) #[] lb] w fun e w' => ∃ r : Nat, e = .returned (I r) ∧ r ≤ n ∧ (0 < r → p (r - 1) = false) ∧ (r < n → p r = true) ∧ Below w.heap.size w w' := by
  have HP := Lib.hid hp
  clear hp
  go_enter Try.func53, Try.ntmps53
  go_wp2
  go_loopw [5, 6] (fun s5 s6 wr => ∃ lo hi : Nat, s5 = I lo ∧ s6 = I hi ∧ lo ≤ hi ∧ hi ≤ n ∧ Below w.heap.size w wr ∧ Hid ((0 < lo → p (lo - 1) = false) ∧ (hi < n → p hi = true))) (fun s5 s6 _ => (intOf s6).toNat - (intOf s5).toNat)
  case atStart => exact ⟨0, n, rfl, rfl, Nat.zero_le _, Nat.le_refl _, Below.refl _ _, Lib.hid ⟨fun h => by omega, fun h => by omega⟩⟩
  case round =>
    obtain ⟨lo, hi, rfl, rfl, hlh, hin, hB, hI⟩ := hrel
    by_cases hlt : lo < hi
    · have hc := HP.out ((lo + hi) / 2) (by omega) wr hB
      rw [show (((lo + hi) / 2 : Nat) : Int) = ((lo : Int) + (hi : Int)) / 2 by omega] at hc
      cases hq : p ((lo + hi) / 2) with
      | false =>
        rw [hq] at hc
        have HQ := Lib.hid hq
        clear hq
        go_wp2_with (go_at_fn g; refine hc.mono ?_; rintro e w' ⟨rfl, hB2⟩)
        go_roundw
        case rel => exact ⟨(lo + hi) / 2 + 1, hi, by rw [show ((lo : Int) + (hi : Int)) / 2 + 1 = (((lo + hi) / 2 + 1 : Nat) : Int) by omega], rfl, by omega, hin, hB.trans (hB2.mono hB.size), Lib.hid ⟨fun _ => HQ.out, hI.out.2⟩⟩
        case measure => simp [intOf]; omega
      | true =>
        rw [hq] at hc
        have HQ := Lib.hid hq
        clear hq
        go_wp2_with (go_at_fn g; refine hc.mono ?_; rintro e w' ⟨rfl, hB2⟩)
        go_roundw
        case rel => exact ⟨lo, (lo + hi) / 2, rfl, by rw [show ((lo : Int) + (hi : Int)) / 2 = (((lo + hi) / 2 : Nat) : Int) by omega], by omega, by omega, hB.trans (hB2.mono hB.size), Lib.hid ⟨hI.out.1, fun _ => HQ.out⟩⟩
        case measure => simp [intOf]; omega
    · obtain rfl : hi = lo := by omega
      go_wp2
      go_ret
      exact ⟨hi, rfl, hin, hI.out.1, hI.out.2, hB⟩
end Go.Proofs.Ytilmlgngnbokfaa
