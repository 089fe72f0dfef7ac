/- cut; the least of a row. -/
import Derived.Test.YtgdilbilhajgaaaDoorE21
namespace Go.Proofs.YtgdilbilhajgaaaDoor
set_option linter.unusedVariables false
set_option linter.unusedSimpArgs false
open Go Go.RowKit

set_option maxRecDepth 100000 in
set_option maxHeartbeats 2000000 in
theorem cut49 (f lo hi : Int) (S o N c k n : Nat) (w : World) (hf : 0 ≤ f ∧ f ≤ 100000) (hN : N ≤ 100000) (hc : N ≤ c ∧ c ≤ 9223372036854775807) (hkn : k < n) (hnN : n ≤ N) (h1 : max lo f = f + (k : Int)) (h2 : min hi (f + (N : Int) - 1) = f + (n : Int) - 1) :
    Calls Tryd.prog 49 #[.agg #[I f, .slice (some ⟨S, o, none⟩) N c], .agg #[I lo, I hi]] w fun e w' => e = .returned (.agg #[I (f + (k : Int)), .slice (some ⟨S, o + k, none⟩) (n - k) (c - k)]) ∧ Below w.heap.size w w' := by
  have HAN : Hid (∀ W, Calls Tryd.prog 62 #[.agg #[I lo, I hi], .agg #[I f, I (f + (N : Int) - 1)]] W fun e w' => e = .returned (.agg #[I (f + (k : Int)), I (f + (n : Int) - 1)]) ∧ Below W.heap.size W w') := Lib.hid fun W => by
    have := and62 lo hi f (f + (N : Int) - 1) W
    rwa [h1, h2] at this
  have r1 : IntKind.i64.wrap (f + (N : Int)) = f + (N : Int) := i64_small (by omega)
  have r2 : IntKind.i64.wrap (f + (N : Int) - 1) = f + (N : Int) - 1 := i64_small (by omega)
  have r3 : wrap64 (f + (N : Int)) = f + (N : Int) := wrap64_small (by omega)
  have r4 : wrap64 (f + (N : Int) - 1) = f + (N : Int) - 1 := wrap64_small (by omega)
  clear h1 h2
  go_enter Tryd.func49, Tryd.ntmps49
  have r5 : IntKind.i64.wrap (f + (k : Int) - f) = (k : Int) := by rw [show f + (k : Int) - f = (k : Int) by omega]; exact i64_small (by omega)
  have r6 : IntKind.i64.wrap (f + (n : Int) - 1 - f) = (n : Int) - 1 := by rw [show f + (n : Int) - 1 - f = (n : Int) - 1 by omega]; exact i64_small (by omega)
  have r7 : IntKind.i64.wrap ((n : Int) - 1 + 1) = (n : Int) := by rw [show (n : Int) - 1 + 1 = (n : Int) by omega]; exact i64_small (by omega)
  have r8 : IntKind.i64.wrap (n : Int) = (n : Int) := i64_small (by omega)
  have hkn' : k ≤ n := by omega
  have hck : ¬ c = k := by omega
  have hck2 : ¬ c - k = 0 := by omega
  have b0 : (0 : Int) ≤ (k : Int) := by omega
  have b1 : (k : Int) ≤ (n : Int) := by omega
  have b2 : (n : Int) ≤ (c : Int) := by omega
  go_wp2_with (first
    | (go_at_call 62; refine (HAN.out _).mono ?_; rintro e w1 ⟨rfl, hB1⟩; have hz := hB1.size; simp only [World.size_alloc] at hz
       have c0 : w1.cell? ⟨w.heap.size, 0, none⟩ = some (I f) := (hB1.cell (p := ⟨w.heap.size, 0, none⟩) (by simp; omega)).trans (by simp [go_sem])
       have c1 : w1.cell? ⟨w.heap.size, 1, none⟩ = some (.slice (some ⟨S, o, none⟩) N c) := (hB1.cell (p := ⟨w.heap.size, 1, none⟩) (by simp; omega)).trans (by simp [go_sem])
       have c2 : w1.cell? ⟨w.heap.size + 1, 0, none⟩ = some (I lo) := (hB1.cell (p := ⟨w.heap.size + 1, 0, none⟩) (by simp)).trans (by simp [go_sem])
       have c3 : w1.cell? ⟨w.heap.size + 1, 1, none⟩ = some (I hi) := (hB1.cell (p := ⟨w.heap.size + 1, 1, none⟩) (by simp)).trans (by simp [go_sem])
       have c4 : w1.cell? ⟨w.heap.size + 1 + 1, 0, none⟩ = some (I 0) := (hB1.cell (p := ⟨w.heap.size + 1 + 1, 0, none⟩) (by simp)).trans (by simp [go_sem])
       have c5 : w1.cell? ⟨w.heap.size + 1 + 1, 1, none⟩ = some (.slice none 0 0) := (hB1.cell (p := ⟨w.heap.size + 1 + 1, 1, none⟩) (by simp)).trans (by simp [go_sem])
       have f2 : w1.frozen? ⟨w.heap.size + 1, 0, none⟩ = false := (hB1.frozen (p := ⟨w.heap.size + 1, 0, none⟩) (by simp)).trans (by simp [go_sem])
       have f3 : w1.frozen? ⟨w.heap.size + 1, 1, none⟩ = false := (hB1.frozen (p := ⟨w.heap.size + 1, 1, none⟩) (by simp)).trans (by simp [go_sem])
       have f4 : w1.frozen? ⟨w.heap.size + 1 + 1, 0, none⟩ = false := (hB1.frozen (p := ⟨w.heap.size + 1 + 1, 0, none⟩) (by simp)).trans (by simp [go_sem])
       have f5 : w1.frozen? ⟨w.heap.size + 1 + 1, 1, none⟩ = false := (hB1.frozen (p := ⟨w.heap.size + 1 + 1, 1, none⟩) (by simp)).trans (by simp [go_sem]))
    | fail)
  have HBW : Hid (Below w.heap.size w w1) := Lib.hid (by (repeat' (first | assumption | exact Below.refl _ _ | refine Below.drew ?_ | refine below_drewN ?_ _ | refine Below.setCell ?_ (by first | omega | (simp; done) | (simp; omega)) _ | refine Below.alloc ?_ (by first | omega | (simp; done) | (simp; omega)) _ | refine Below.trans ?_ (Below.mono (by assumption) (by first | omega | (simp; done) | (simp; omega))))))
  have HZ := Lib.hid hz
  clear hz hB1
  refine (wpIn_wide (n := 9)).1 ?_
  refine wpIn_region_plan (Plan.ons [0, 1, 2, 3, 4, 5, 6, 7, 8, 9, 10, 11, 12, 13, 14, 15, 16, 17] .fin) [] (fun _ => True) [] rfl (by kernel_rfl) (by kernel_rfl) (fun _ d _ _ _ h => by cases d <;> exact h) trivial ?_
  iterate 17 (refine ordQ_li rfl rfl rfl (fun K hK => ?_); go_simp; refine hK _ ?_; clear hK K)
  refine ordQ_hv rfl rfl rfl (fun K hK => ?_)
  gi_wp2
  refine hK _ _ (fun _ => trivial) ?_
  clear hK K
  refine ordQ_fin ?_
  go_wp2
  refine bodyPost_ret (v := .agg #[I (f + (k : Int)), .slice (some ⟨S, o + k, none⟩) (n - k) (c - k)]) (by simp [results, Tryd.results49, go_sem, c4, c5]) rfl ⟨rfl, ?_⟩
  exact ((((HBW.out.setCell (by simp) _).setCell (by simp) _).setCell (by simp; omega) _).setCell (by simp; omega) _).drew

set_option maxRecDepth 100000 in
set_option maxHeartbeats 2000000 in
theorem min50 (S o c : Nat) (xs : List Int) (w : World) (hS : S < w.heap.size) (hx : ∀ k (h : k < xs.length), w.cell? ⟨S, o + k, none⟩ = some (I xs[k])) (h0 : 0 < xs.length) (hn : xs.length ≤ 100000) :
    Calls Tryd.prog 50 #[.slice (some ⟨S, o, none⟩) xs.length c] w fun e w' => ∃ v, e = .returned (I v) ∧ v ∈ xs ∧ (∀ y ∈ xs, v ≤ y) ∧ Below w.heap.size w w' := by
  have HX := Lib.hid hx
  have hx0 := hx 0 h0
  rw [Nat.add_zero] at hx0
  have HM0 : Hid (xs[0] ∈ xs) := Lib.hid (List.getElem_mem h0)
  have H00 : Hid (∀ j (h : j < xs.length), j < 1 → xs[0] ≤ xs[j]) := Lib.hid fun j h h1 => by
    obtain rfl : j = 0 := by omega
    exact Int.le_refl _
  generalize xs[0] = x0 at *
  clear hx
  go_enter Tryd.func50, Tryd.ntmps50
  go_wp2
  go_loopw [3, 4] (fun s3 s4 wr => ∃ (k : Nat) (v : Int), 1 ≤ k ∧ k ≤ xs.length ∧ s4 = I k ∧ s3 = I v ∧ Below w.heap.size w wr ∧ Hid (v ∈ xs) ∧ Hid (∀ j (h : j < xs.length), j < k → v ≤ xs[j])) (fun _ s _ => xs.length - (intOf s).toNat)
  case atStart => exact ⟨1, x0, by omega, by omega, rfl, rfl, Below.refl _ _, HM0, H00⟩
  case round =>
    obtain ⟨k, v, hk1, hk, rfl, rfl, hB, HV, HL⟩ := hrel
    by_cases hlt : k < xs.length
    · have hcell := (hB.cell (p := ⟨S, o + k, none⟩) hS).trans (HX.out k hlt)
      have HMM : Hid (xs[k] ∈ xs) := Lib.hid (List.getElem_mem hlt)
      have HKK : Hid (∀ j (h : j < xs.length), j < k + 1 → min v xs[k] ≤ xs[j]) := Lib.hid fun j h hj => by
        rcases Nat.lt_succ_iff_lt_or_eq.1 hj with h1 | rfl
        · have := HL.out j h h1; omega
        · omega
      generalize xs[k] = x at *
      go_wp2
      go_roundw
      case rel => exact ⟨k + 1, min v x, by omega, by omega, by go_num, rfl, hB, Lib.hid (by
        by_cases h : v ≤ x
        · rw [show min v x = v by omega]; exact HV.out
        · rw [show min v x = x by omega]; exact HMM.out), HKK⟩
      case measure => simp [intOf]; omega
    · go_wp2
      go_ret
      exact ⟨v, rfl, HV.out, fun y hy => by
        obtain ⟨j, hj, rfl⟩ := List.mem_iff_getElem.1 hy
        exact HL.out j hj (by omega), hB⟩
end Go.Proofs.YtgdilbilhajgaaaDoor
