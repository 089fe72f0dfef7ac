/- The document's sum of spans. -/
import Derived.Test.YtgdilbilhajgaaaDoorCa
namespace Go.Proofs.YtgdilbilhajgaaaDoor
set_option linter.unusedVariables false
set_option linter.unusedSimpArgs false
open Go Go.RowKit

/-- The mains below k that flow into one, but for one of them. -/
def selL (m : List (Int × Int)) (main not : Int) (k : Nat) : List Nat := (List.range k).filter fun j => decide (parW m j = main ∧ (j : Int) ≠ not)
theorem selL_succ (m : List (Int × Int)) (main not : Int) (k : Nat) : selL m main not (k + 1) = if parW m k = main ∧ (k : Int) ≠ not then selL m main not k ++ [k] else selL m main not k := by
  unfold selL
  rw [List.range_succ, List.filter_append]
  by_cases h : parW m k = main ∧ (k : Int) ≠ not
  · rw [if_pos h]; simp [List.filter_cons, h]
  · rw [if_neg h]; simp only [List.filter_cons, List.filter_nil, decide_eq_false h, Bool.false_eq_true, if_false, List.append_nil]
def sumS (m : List (Int × Int)) (s : Nat → Int × Int) (main not : Int) (k : Nat) : Int × Int := (sumL (fun j => (s j).1) (selL m main not k), sumL (fun j => (s j).2) (selL m main not k))
theorem sumS_succ (m : List (Int × Int)) (s : Nat → Int × Int) (main not : Int) (k : Nat) : sumS m s main not (k + 1) = if parW m k = main ∧ (k : Int) ≠ not then ((sumS m s main not k).1 + (s k).1, (sumS m s main not k).2 + (s k).2) else sumS m s main not k := by
  unfold sumS
  rw [selL_succ]
  split
  · simp [sumL_append, sumL]
  · rfl
theorem sumS_bd {m : List (Int × Int)} {s : Nat → Int × Int} (main not : Int) : ∀ k : Nat, (∀ j, j < k → (-2000 ≤ (s j).1 ∧ (s j).1 ≤ 2000) ∧ -2000 ≤ (s j).2 ∧ (s j).2 ≤ 2000) → (-2000 * (k : Int) ≤ (sumS m s main not k).1 ∧ (sumS m s main not k).1 ≤ 2000 * k) ∧ -2000 * (k : Int) ≤ (sumS m s main not k).2 ∧ (sumS m s main not k).2 ≤ 2000 * k
  | 0, _ => by simp [sumS, selL, sumL]
  | k + 1, h => by
    have ih := sumS_bd (m := m) main not k (fun j hj => h j (by omega))
    have hk := h k (by omega)
    rw [sumS_succ]
    split
    · simp only
      omega
    · omega

set_option maxRecDepth 100000 in
set_option maxHeartbeats 4000000 in
theorem sum88 (A : Option Addr) (S c cs : Nat) (m sl : List (Int × Int)) (main not : Int) (w : World) (hm : Pairs w w.heap.size A m) (hsp : SpB w S sl) (hsl : sl.length = m.length) (hm16 : m.length ≤ 16)
    (hbd : ∀ j, j < m.length → (-2000 ≤ (sF sl j).1 ∧ (sF sl j).1 ≤ 2000) ∧ -2000 ≤ (sF sl j).2 ∧ (sF sl j).2 ≤ 2000) :
    Calls Tryd.prog 88 #[.slice A m.length c, .slice (some ⟨S, 0, none⟩) m.length cs, I main, I not] w fun e w' => e = .returned (.agg #[I (sumS m (sF sl) main not m.length).1, I (sumS m (sF sl) main not m.length).2]) ∧ Below w.heap.size w w' := by
  have HM := Lib.hid hm
  have HSP := Lib.hid hsp
  have HBD : Hid (∀ k, k ≤ m.length → (-32000 ≤ (sumS m (sF sl) main not k).1 ∧ (sumS m (sF sl) main not k).1 ≤ 32000) ∧ -32000 ≤ (sumS m (sF sl) main not k).2 ∧ (sumS m (sF sl) main not k).2 ≤ 32000) := Lib.hid fun k hk => by
    have := sumS_bd (m := m) main not k (fun j hj => hbd j (by omega))
    omega
  have HB1 := Lib.hid hbd
  clear hm hsp hbd
  go_enter Tryd.func88, Tryd.ntmps88
  go_wp2_with (fail)
  have hBz : Below w.heap.size w ((w.alloc (.cells #[I 0, I 0] 39)).alloc (.cells #[I 0, I 0] 39)) := by (repeat' (first | assumption | exact Below.refl _ _ | refine Below.drew ?_ | refine below_drewN ?_ _ | refine Below.setCell ?_ (by first | omega | (simp; done) | (simp; omega)) _ | refine Below.alloc ?_ (by first | omega | (simp; done) | (simp; omega)) _ | refine Below.trans ?_ (Below.mono (by assumption) (by first | omega | (simp; done) | (simp; omega)))))
  have HR0 : Hid (Box ((w.alloc (.cells #[I 0, I 0] 39)).alloc (.cells #[I 0, I 0] 39)) w.heap.size [I 0, I 0]) := Lib.hid ((Box.new w [I 0, I 0] 39).alloc _)
  have HX0 : Hid (Box ((w.alloc (.cells #[I 0, I 0] 39)).alloc (.cells #[I 0, I 0] 39)) (w.heap.size + 1) [I (sumS m (sF sl) main not 0).1, I (sumS m (sF sl) main not 0).2]) := Lib.hid (by
    have := Box.new (w.alloc (.cells #[I 0, I 0] 39)) [I 0, I 0] 39
    rw [World.size_alloc] at this
    simpa [sumS, selL, sumL] using this)
  generalize (w.alloc (.cells #[I 0, I 0] 39)).alloc (.cells #[I 0, I 0] 39) = wz at *
  go_loopw [10] (fun s wr => ∃ k : Nat, k ≤ m.length ∧ s = I k ∧ Below w.heap.size w wr ∧ Hid (Box wr w.heap.size [I 0, I 0]) ∧ Hid (Box wr (w.heap.size + 1) [I (sumS m (sF sl) main not k).1, I (sumS m (sF sl) main not k).2])) (fun s _ => m.length - (intOf s).toNat)
  case atStart => exact ⟨0, Nat.zero_le _, rfl, hBz, HR0, HX0⟩
  case round =>
    clear hBz HR0 HX0
    obtain ⟨k, hk, rfl, hB, HR, HX⟩ := hrel
    obtain ⟨x0, y0⟩ := HX.out.at_ 0 _ rfl
    obtain ⟨x1, y1⟩ := HX.out.at_ 1 _ rfl
    have hobz := HX.out.1
    by_cases hlt : k < m.length
    · obtain ⟨b, o, rfl, hbz, hcs⟩ := (HM.out.below hB) (by omega)
      have c0 := (hcs k hlt).1
      have hks : k < sl.length := by omega
      obtain ⟨d0, d1, _, _⟩ := (HSP.out.below hB HSP.out.1).2 k hks
      have hse : sl[k] = sF sl k := by simp [sF, List.getD, hks]
      have hme : m[k].1 = parW m k := by simp [parW, List.getD, hlt]
      rw [hse] at d0 d1
      rw [hme] at c0
      have HN := Lib.hid (sumS_succ m (sF sl) main not k)
      have q := HBD.out k (by omega)
      have q' := HB1.out k hlt
      have hSz : S < wr.heap.size := Nat.lt_of_lt_of_le HSP.out.1 hB.size
      obtain ⟨tn, htn⟩ : ∃ tn, tn = sumS m (sF sl) main not (k + 1) := ⟨_, rfl⟩
      rw [← htn] at HN
      have HTN := Lib.hid htn
      clear htn hse hme
      generalize sumS m (sF sl) main not k = z at *
      obtain ⟨z1, z2⟩ := z
      generalize sF sl k = r at *
      obtain ⟨r1, r2⟩ := r
      generalize parW m k = a at *
      simp only at c0 d0 d1 x0 x1 q q'
      have hwz := hB.size
      have hbw : b < wr.heap.size := by omega
      have g1 : IntKind.i64.wrap (z1 + r1) = z1 + r1 := IntWalk.i64_in _ (by omega)
      have g2 : IntKind.i64.wrap (z2 + r2) = z2 + r2 := IntWalk.i64_in _ (by omega)
      have p0 : (0 : Int) ≤ (k : Int) := by omega
      have p1 : (k : Int) < (m.length : Int) := by omega
      have HBB := Lib.hid hB
      clear hcs q q'
      by_cases ha : a = main ∧ (k : Int) ≠ not
      · have hab : (a == main) = true := by simpa using ha.1
        have hac : ((k : Int) != not) = true := by simpa using ha.2
        have HA := Lib.hid ha
        clear ha hB
        go_wp2_with (fail)
        refine (wpIn_wide (n := 9)).1 ?_
        refine wpIn_region_plan (Plan.ons [0, 1, 2, 3, 4, 5, 6, 7, 8, 9, 10, 11, 12, 13, 14, 15, 16, 17] .fin) [] (fun _ => True) [] rfl (by kernel_rfl) (by kernel_rfl) (fun _ d _ _ _ h => by cases d <;> exact h) trivial ?_
        iterate 17 (refine ordQ_li rfl rfl rfl (fun K hK => ?_); go_simp; refine hK _ ?_; clear hK K)
        refine ordQ_hv rfl rfl rfl (fun K hK => ?_)
        gi_wp2
        refine hK _ _ (fun _ => trivial) ?_
        clear hK K
        refine ordQ_fin ?_
        have hbd : Below wr.heap.size wr wr.drew := (Below.refl _ _).drew
        have hB6 : Below w.heap.size w ((wr.drew.setCell ⟨w.heap.size + 1, 0, none⟩ (I (z1 + r1))).setCell ⟨w.heap.size + 1, 1, none⟩ (I (z2 + r2))) := ((HBB.out.trans (hbd.mono hwz)).setCell (by simp) _).setCell (by simp) _
        have HX6 : Hid (Box ((wr.drew.setCell ⟨w.heap.size + 1, 0, none⟩ (I (z1 + r1))).setCell ⟨w.heap.size + 1, 1, none⟩ (I (z2 + r2))) (w.heap.size + 1) [I tn.1, I tn.2]) := Lib.hid (by
          rw [HN.out, if_pos HA.out]
          exact ((HX.out.call hbd).set 0 _).set 1 _)
        have HR6 : Hid (Box ((wr.drew.setCell ⟨w.heap.size + 1, 0, none⟩ (I (z1 + r1))).setCell ⟨w.heap.size + 1, 1, none⟩ (I (z2 + r2))) w.heap.size [I 0, I 0]) := Lib.hid (((HR.out.call hbd).far (by simp) _).far (by simp) _)
        clear x0 x1 y0 y1
        go_wp2
        go_roundw
        case rel => exact ⟨k + 1, by omega, by go_num, hB6, HR6, Lib.hid (by rw [← HTN.out]; exact HX6.out)⟩
        case measure => first | (simp [intOf]; done) | (simp [intOf]; omega)
      · have HX2 : Hid (Box wr (w.heap.size + 1) [I tn.1, I tn.2]) := Lib.hid (by rw [HN.out, if_neg ha]; exact HX.out)
        by_cases ha1 : a = main
        · have hab : (a == main) = true := by simpa using ha1
          have hac : ((k : Int) != not) = false := by simpa using fun h => ha ⟨ha1, h⟩
          clear ha ha1
          go_wp2
          go_roundw
          case rel => exact ⟨k + 1, by omega, by go_num, hB, HR, Lib.hid (by rw [← HTN.out]; exact HX2.out)⟩
          case measure => first | (simp [intOf]; done) | (simp [intOf]; omega)
        · have hab : (a == main) = false := by simpa using ha1
          clear ha ha1
          go_wp2
          go_roundw
          case rel => exact ⟨k + 1, by omega, by go_num, hB, HR, Lib.hid (by rw [← HTN.out]; exact HX2.out)⟩
          case measure => first | (simp [intOf]; done) | (simp [intOf]; omega)
    · obtain rfl : m.length = k := by omega
      obtain ⟨c0, d0⟩ := HR.out.at_ 0 _ rfl
      obtain ⟨c1, d1⟩ := HR.out.at_ 1 _ rfl
      go_wp2
      refine bodyPost_ret (v := .agg #[I (sumS m (sF sl) main not m.length).1, I (sumS m (sF sl) main not m.length).2]) (by simp [results, Tryd.results88, go_sem, c0, c1]) rfl ⟨rfl, ?_⟩
      exact (hB.setCell (by simp) _).setCell (by simp) _
end Go.Proofs.YtgdilbilhajgaaaDoor
